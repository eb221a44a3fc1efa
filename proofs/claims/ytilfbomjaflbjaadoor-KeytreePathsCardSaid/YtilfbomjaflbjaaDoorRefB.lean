/- The reference's Public. -/
import Derived.Test.YtilfbomjaflbjaaDoorRefA
import Derived.Test.YtilfbomjaflbjaaDoorVcN
namespace Go.Proofs.YtilfbomjaflbjaaDoor
open Go Go.Vc Go.Sha

set_option maxRecDepth 10000 in
theorem ref_Public_calls (m op sh : List Nat) (hm8 : m.length = 8) (hmlt : ∀ x ∈ m, x < 256) (hop : op.length = 128) (hoplt : ∀ x ∈ op, x < 256) (hsh : sh.length = 128) (hshlt : ∀ x ∈ sh, x < 256) (w : World) :
    Gives Tryd.prog 20 [.agg (u8s m).toArray, .agg (u8s op).toArray, .agg (u8s sh).toArray] (.agg (u8s (pubBy m op sh)).toArray) w := by
  refine enter Tryd.func20 rfl (Mem.nil w []) rfl ?_
  have hq1 := fun {i : Nat} (hi : i < 16) => pc_len (c := 8) (n := 16) hop hi
  have hq2 := fun {i : Nat} (hi : i < 16) => pc_len (c := 8) (n := 16) hsh hi
  (repeat refine RC.seq ?_); refine RC.region ?_
  refine Run.mk rfl rfl rfl (New.boxA rfl rfl) ?_
  intro b3
  refine Run.mk rfl rfl rfl (New.boxA rfl rfl) ?_
  intro b4
  refine Run.mk rfl rfl rfl (New.boxA rfl rfl) ?_
  intro b5
  refine Run.mk rfl rfl rfl (New.alloc tabOk rfl rfl) ?_
  intro b6
  refine Run.nil (RQ.next ?_)
  (repeat refine RC.seq ?_); refine RC.region ?_
  refine Run.v rfl rfl rfl (Val.of rfl) ?_
  refine Run.nil (RQ.next ?_)
  (repeat refine RC.seq ?_); refine RC.region ?_
  refine Run.v rfl rfl rfl (Val.of rfl) ?_
  refine Run.nil (RQ.next ?_)
  (repeat refine RC.seq ?_); refine RC.block ?_
  refine RC.up 16 (D := Value × Hp) (fun i x => Own 5 1 x.1 (16 * i) (u8s (rowOf (turnd m op sh) i)) x.2)
    (fun i x => [(8, .int .i64 i), (7, x.1), (3, .pointer (some ⟨b3, 0, none⟩)), (4, .pointer (some ⟨b4, 0, none⟩)), (5, .pointer (some ⟨b5, 0, none⟩)), (6, .pointer (some ⟨b6, 0, none⟩))])
    (fun i x => x.2 ++ [(b6, .cells ti23.zero.cells 23 (0, 0)), (b5, .cells (u8s sh).toArray 27 (0, 0)), (b4, .cells (u8s op).toArray 27 (0, 0)), (b3, .cells (u8s m).toArray 23 (0, 0))])
    0 (_, _) (Nat.zero_le _) Own.nil ⟨rfl, rfl, rfl, rfl, rfl, rfl, trivial⟩ (List.Sublist.refl _) ?_
  rintro i ⟨v7, bl7⟩ hi hown
  dsimp only at hown ⊢
  (repeat refine RC.seq ?_); refine RC.region ?_
  refine Run.v rfl rfl rfl (Val.of rfl) ?_
  refine Run.v rfl rfl rfl (Val.of rfl) ?_
  refine Run.nil (RQ.next ?_)
  (repeat refine RC.seq ?_); refine RC.wh rfl (fun h => RQ.next ?_) (fun h => ?_)
  · have hi' : i < 16 := by have := of_decide_eq_true h; omega
    clear h
    have hb := bitOf_lt m i
    have q1 := hq1 hi'
    have q2 := hq2 hi'
    have q3 := pc_lt (c := 8) hoplt i
    have o1 := mark_len (pc 8 op i)
    have e1 : rowOf (turnd m op sh) (i + 1) = rowOf (turnd m op sh) i ++ turnd m op sh i := rfl
    have et : turnd m op sh i = (if bitOf m i = 1 then pc 8 sh i else markH (pc 8 op i)) ++ (if bitOf m i = 1 then markH (pc 8 op i) else pc 8 sh i) := by unfold turnd; split <;> rfl
    generalize hpe : pc 8 op i = po at *
    generalize hse : pc 8 sh i = ps at *
    (repeat refine RC.seq ?_); refine RC.block ?_
    refine RC.seqCut (Y := Nat × Nat) (fun y => [(9, .pointer (some ⟨y.1, 0, none⟩)), (10, .pointer (some ⟨y.2, 0, none⟩)), (8, .int .i64 i), (7, v7), (3, .pointer (some ⟨b3, 0, none⟩)), (4, .pointer (some ⟨b4, 0, none⟩)), (5, .pointer (some ⟨b5, 0, none⟩)), (6, .pointer (some ⟨b6, 0, none⟩))])
      (fun y => (y.1, .cells (u8s (markH po)).toArray 23 (0, 0)) :: (y.2, .cells (u8s ps).toArray 23 (0, 0)) :: (bl7 ++ [(b6, .cells ti23.zero.cells 23 (0, 0)), (b5, .cells (u8s sh).toArray 27 (0, 0)), (b4, .cells (u8s op).toArray 27 (0, 0)), (b3, .cells (u8s m).toArray 23 (0, 0))])) ?_ (fun y => ?_)
    · (repeat refine RC.seq ?_); refine RC.drawS mixed (N := 11) rfl ?_
      refine DR.take 0 rfl (by repeat (first | exact List.nil_sublist _ | exact List.Sublist.refl _ | apply List.Sublist.cons_cons | apply List.Sublist.cons)) inferInstance (by kernel_rfl) (by kernel_rfl) (by kernel_rfl) (by kernel_rfl) rfl rfl (Wanted.plain rfl) (Val.of rfl) ?_
      refine DR.take 1 rfl (by repeat (first | exact List.nil_sublist _ | exact List.Sublist.refl _ | apply List.Sublist.cons_cons | apply List.Sublist.cons)) inferInstance (by kernel_rfl) (by kernel_rfl) (by kernel_rfl) (by kernel_rfl) rfl rfl (Wanted.plain rfl) (Val.ix tabOk i (off' := i * 8) rfl rfl rfl rfl rfl rfl rfl hi' (by simp [ti23])) ?_
      refine DR.take 2 rfl (by repeat (first | exact List.nil_sublist _ | exact List.Sublist.refl _ | apply List.Sublist.cons_cons | apply List.Sublist.cons)) inferInstance (by kernel_rfl) (by kernel_rfl) (by kernel_rfl) (by kernel_rfl) rfl rfl (Wanted.plain rfl) (Val.eq (Val.loadPc tabOk i (c := 8) rfl rfl rfl rfl (List.mem_append_right _ m2) rfl rfl (by rw [hpe]; exact q1)) (congrArg (fun l => Value.agg (u8s l).toArray) hpe)) ?_
      refine DR.take 4 rfl (by repeat (first | exact List.nil_sublist _ | exact List.Sublist.refl _ | apply List.Sublist.cons_cons | apply List.Sublist.cons)) inferInstance (by kernel_rfl) (by kernel_rfl) (by kernel_rfl) (by kernel_rfl) rfl rfl (Wanted.plain rfl) (Val.of rfl) ?_
      refine DR.take 5 rfl (by repeat (first | exact List.nil_sublist _ | exact List.Sublist.refl _ | apply List.Sublist.cons_cons | apply List.Sublist.cons)) inferInstance (by kernel_rfl) (by kernel_rfl) (by kernel_rfl) (by kernel_rfl) rfl rfl (Wanted.plain rfl) (Val.ix tabOk i (off' := i * 8) rfl rfl rfl rfl rfl rfl rfl hi' (by simp [ti23])) ?_
      refine DR.take 6 rfl (by repeat (first | exact List.nil_sublist _ | exact List.Sublist.refl _ | apply List.Sublist.cons_cons | apply List.Sublist.cons)) inferInstance (by kernel_rfl) (by kernel_rfl) (by kernel_rfl) (by kernel_rfl) rfl rfl (Wanted.plain rfl) (Val.eq (Val.loadPc tabOk i (c := 8) rfl rfl rfl rfl (List.mem_append_right _ m1) rfl rfl (by rw [hse]; exact q2)) (congrArg (fun l => Value.agg (u8s l).toArray) hse)) ?_
      refine DR.three (i := 3) (j := 7) (k := 8) (by kernel_rfl) ?_ ?_ ?_
      · refine DOp.op rfl (Wanted.plain rfl) (OpTo.callV Tryd.func42 rfl rfl rfl rfl rfl rfl (fun w' _ => ref_MarkOf_calls _ q1 q3 w')) (.inl fun _ => (by repeat (first | exact List.nil_sublist _ | exact List.Sublist.refl _ | apply List.Sublist.cons_cons | apply List.Sublist.cons))) (fun _ => ?_)
        refine DR.two (i := 7) (j := 8) (by kernel_rfl) ?_ ?_
        · refine DOp.op rfl (Wanted.plain rfl) (OpTo.new rfl rfl (New.alloc tabOk rfl rfl)) (.inl fun _ => by repeat (first | exact List.nil_sublist _ | exact List.Sublist.refl _ | apply List.Sublist.cons_cons | apply List.Sublist.cons)) ?_
          intro b9
          refine DR.one (i := 8) (by kernel_rfl) ?_
          refine DOp.op rfl (Wanted.plain rfl) (OpTo.new rfl rfl (New.alloc tabOk rfl rfl)) (.inl fun _ => by repeat (first | exact List.nil_sublist _ | exact List.Sublist.refl _ | apply List.Sublist.cons_cons | apply List.Sublist.cons)) ?_
          intro b10
          refine DR.one (i := 9) (by kernel_rfl) ?_
          refine DOp.op rfl (Wanted.plain rfl) (OpTo.setAll tabOk rfl rfl rfl rfl rfl p1 o1 rfl) (.inl fun _ => (by repeat (first | exact List.nil_sublist _ | exact List.Sublist.refl _ | apply List.Sublist.cons_cons | apply List.Sublist.cons))) (fun _ => ?_)
          refine DR.one (i := 10) (by kernel_rfl) ?_
          refine DOp.op rfl (Wanted.plain rfl) (OpTo.setAll tabOk rfl rfl rfl rfl rfl p1 q2 rfl) (.inr (by kernel_rfl)) (fun _ => ?_)
          refine DR.done (by kernel_rfl) ?_
          exact RQ.toP (b9, b10) ⟨rfl, rfl, rfl, rfl, rfl, rfl, rfl, rfl, trivial⟩ p1 (List.Sublist.refl _)
        · refine DOp.op rfl (Wanted.plain rfl) (OpTo.new rfl rfl (New.alloc tabOk rfl rfl)) (.inl fun _ => by repeat (first | exact List.nil_sublist _ | exact List.Sublist.refl _ | apply List.Sublist.cons_cons | apply List.Sublist.cons)) ?_
          intro b10
          refine DR.one (i := 7) (by kernel_rfl) ?_
          refine DOp.op rfl (Wanted.plain rfl) (OpTo.new rfl rfl (New.alloc tabOk rfl rfl)) (.inl fun _ => by repeat (first | exact List.nil_sublist _ | exact List.Sublist.refl _ | apply List.Sublist.cons_cons | apply List.Sublist.cons)) ?_
          intro b9
          refine DR.one (i := 9) (by kernel_rfl) ?_
          refine DOp.op rfl (Wanted.plain rfl) (OpTo.setAll tabOk rfl rfl rfl rfl rfl (List.Perm.refl _) o1 rfl) (.inl fun _ => (by repeat (first | exact List.nil_sublist _ | exact List.Sublist.refl _ | apply List.Sublist.cons_cons | apply List.Sublist.cons))) (fun _ => ?_)
          refine DR.one (i := 10) (by kernel_rfl) ?_
          refine DOp.op rfl (Wanted.plain rfl) (OpTo.setAll tabOk rfl rfl rfl rfl rfl p1 q2 rfl) (.inr (by kernel_rfl)) (fun _ => ?_)
          refine DR.done (by kernel_rfl) ?_
          exact RQ.toP (b9, b10) ⟨rfl, rfl, rfl, rfl, rfl, rfl, rfl, rfl, trivial⟩ p1 (List.Sublist.refl _)
      · refine DOp.op rfl (Wanted.plain rfl) (OpTo.new rfl rfl (New.alloc tabOk rfl rfl)) (.inl fun _ => by repeat (first | exact List.nil_sublist _ | exact List.Sublist.refl _ | apply List.Sublist.cons_cons | apply List.Sublist.cons)) ?_
        intro b9
        refine DR.two (i := 3) (j := 8) (by kernel_rfl) ?_ ?_
        · refine DOp.op rfl (Wanted.plain rfl) (OpTo.callV Tryd.func42 rfl rfl rfl rfl rfl rfl (fun w' _ => ref_MarkOf_calls _ q1 q3 w')) (.inl fun _ => (by repeat (first | exact List.nil_sublist _ | exact List.Sublist.refl _ | apply List.Sublist.cons_cons | apply List.Sublist.cons))) (fun _ => ?_)
          refine DR.one (i := 8) (by kernel_rfl) ?_
          refine DOp.op rfl (Wanted.plain rfl) (OpTo.new rfl rfl (New.alloc tabOk rfl rfl)) (.inl fun _ => by repeat (first | exact List.nil_sublist _ | exact List.Sublist.refl _ | apply List.Sublist.cons_cons | apply List.Sublist.cons)) ?_
          intro b10
          refine DR.one (i := 9) (by kernel_rfl) ?_
          refine DOp.op rfl (Wanted.plain rfl) (OpTo.setAll tabOk rfl rfl rfl rfl rfl p1 o1 rfl) (.inl fun _ => (by repeat (first | exact List.nil_sublist _ | exact List.Sublist.refl _ | apply List.Sublist.cons_cons | apply List.Sublist.cons))) (fun _ => ?_)
          refine DR.one (i := 10) (by kernel_rfl) ?_
          refine DOp.op rfl (Wanted.plain rfl) (OpTo.setAll tabOk rfl rfl rfl rfl rfl p1 q2 rfl) (.inr (by kernel_rfl)) (fun _ => ?_)
          refine DR.done (by kernel_rfl) ?_
          exact RQ.toP (b9, b10) ⟨rfl, rfl, rfl, rfl, rfl, rfl, rfl, rfl, trivial⟩ p1 (List.Sublist.refl _)
        · refine DOp.op rfl (Wanted.plain rfl) (OpTo.new rfl rfl (New.alloc tabOk rfl rfl)) (.inl fun _ => by repeat (first | exact List.nil_sublist _ | exact List.Sublist.refl _ | apply List.Sublist.cons_cons | apply List.Sublist.cons)) ?_
          intro b10
          refine DR.one (i := 3) (by kernel_rfl) ?_
          refine DOp.op rfl (Wanted.plain rfl) (OpTo.callV Tryd.func42 rfl rfl rfl rfl rfl rfl (fun w' _ => ref_MarkOf_calls _ q1 q3 w')) (.inl fun _ => (by repeat (first | exact List.nil_sublist _ | exact List.Sublist.refl _ | apply List.Sublist.cons_cons | apply List.Sublist.cons))) (fun _ => ?_)
          refine DR.one (i := 9) (by kernel_rfl) ?_
          refine DOp.op rfl (Wanted.plain rfl) (OpTo.setAll tabOk rfl rfl rfl rfl rfl p1 o1 rfl) (.inl fun _ => (by repeat (first | exact List.nil_sublist _ | exact List.Sublist.refl _ | apply List.Sublist.cons_cons | apply List.Sublist.cons))) (fun _ => ?_)
          refine DR.one (i := 10) (by kernel_rfl) ?_
          refine DOp.op rfl (Wanted.plain rfl) (OpTo.setAll tabOk rfl rfl rfl rfl rfl p1 q2 rfl) (.inr (by kernel_rfl)) (fun _ => ?_)
          refine DR.done (by kernel_rfl) ?_
          exact RQ.toP (b9, b10) ⟨rfl, rfl, rfl, rfl, rfl, rfl, rfl, rfl, trivial⟩ p1 (List.Sublist.refl _)
      · refine DOp.op rfl (Wanted.plain rfl) (OpTo.new rfl rfl (New.alloc tabOk rfl rfl)) (.inl fun _ => by repeat (first | exact List.nil_sublist _ | exact List.Sublist.refl _ | apply List.Sublist.cons_cons | apply List.Sublist.cons)) ?_
        intro b10
        refine DR.two (i := 3) (j := 7) (by kernel_rfl) ?_ ?_
        · refine DOp.op rfl (Wanted.plain rfl) (OpTo.callV Tryd.func42 rfl rfl rfl rfl rfl rfl (fun w' _ => ref_MarkOf_calls _ q1 q3 w')) (.inl fun _ => (by repeat (first | exact List.nil_sublist _ | exact List.Sublist.refl _ | apply List.Sublist.cons_cons | apply List.Sublist.cons))) (fun _ => ?_)
          refine DR.one (i := 7) (by kernel_rfl) ?_
          refine DOp.op rfl (Wanted.plain rfl) (OpTo.new rfl rfl (New.alloc tabOk rfl rfl)) (.inl fun _ => by repeat (first | exact List.nil_sublist _ | exact List.Sublist.refl _ | apply List.Sublist.cons_cons | apply List.Sublist.cons)) ?_
          intro b9
          refine DR.one (i := 9) (by kernel_rfl) ?_
          refine DOp.op rfl (Wanted.plain rfl) (OpTo.setAll tabOk rfl rfl rfl rfl rfl (List.Perm.refl _) o1 rfl) (.inl fun _ => (by repeat (first | exact List.nil_sublist _ | exact List.Sublist.refl _ | apply List.Sublist.cons_cons | apply List.Sublist.cons))) (fun _ => ?_)
          refine DR.one (i := 10) (by kernel_rfl) ?_
          refine DOp.op rfl (Wanted.plain rfl) (OpTo.setAll tabOk rfl rfl rfl rfl rfl p1 q2 rfl) (.inr (by kernel_rfl)) (fun _ => ?_)
          refine DR.done (by kernel_rfl) ?_
          exact RQ.toP (b9, b10) ⟨rfl, rfl, rfl, rfl, rfl, rfl, rfl, rfl, trivial⟩ p1 (List.Sublist.refl _)
        · refine DOp.op rfl (Wanted.plain rfl) (OpTo.new rfl rfl (New.alloc tabOk rfl rfl)) (.inl fun _ => by repeat (first | exact List.nil_sublist _ | exact List.Sublist.refl _ | apply List.Sublist.cons_cons | apply List.Sublist.cons)) ?_
          intro b9
          refine DR.one (i := 3) (by kernel_rfl) ?_
          refine DOp.op rfl (Wanted.plain rfl) (OpTo.callV Tryd.func42 rfl rfl rfl rfl rfl rfl (fun w' _ => ref_MarkOf_calls _ q1 q3 w')) (.inl fun _ => (by repeat (first | exact List.nil_sublist _ | exact List.Sublist.refl _ | apply List.Sublist.cons_cons | apply List.Sublist.cons))) (fun _ => ?_)
          refine DR.one (i := 9) (by kernel_rfl) ?_
          refine DOp.op rfl (Wanted.plain rfl) (OpTo.setAll tabOk rfl rfl rfl rfl rfl (List.Perm.refl _) o1 rfl) (.inl fun _ => (by repeat (first | exact List.nil_sublist _ | exact List.Sublist.refl _ | apply List.Sublist.cons_cons | apply List.Sublist.cons))) (fun _ => ?_)
          refine DR.one (i := 10) (by kernel_rfl) ?_
          refine DOp.op rfl (Wanted.plain rfl) (OpTo.setAll tabOk rfl rfl rfl rfl rfl p1 q2 rfl) (.inr (by kernel_rfl)) (fun _ => ?_)
          refine DR.done (by kernel_rfl) ?_
          exact RQ.toP (b9, b10) ⟨rfl, rfl, rfl, rfl, rfl, rfl, rfl, rfl, trivial⟩ p1 (List.Sublist.refl _)
    obtain ⟨b9, b10⟩ := y
    dsimp only
    (repeat refine RC.seq ?_); refine RC.region ?_
    refine Run.v rfl rfl rfl (Val.loadU tabOk rfl rfl rfl rfl (List.mem_cons_of_mem _ (List.mem_cons_of_mem _ (List.mem_append_right _ m3))) hm8) ?_
    refine Run.v rfl rfl rfl (Val.of rfl) ?_
    refine Run.callV Tryd.func43 rfl rfl rfl rfl rfl rfl rfl (fun w' _ => ref_bit_calls m hm8 hmlt i (by omega) w') ?_
    refine Run.v rfl rfl rfl (Val.eq (Val.of rfl) (show _ = Value.bool (decide (bitOf m i = 1)) from congrArg Value.bool (by rw [Bool.eq_iff_iff, beq_iff_eq, decide_eq_true_iff]; omega))) ?_
    refine Run.nil (RQ.next ?_)
    refine RC.thenCut (Y := Unit) (fun _ => [(9, .pointer (some ⟨b9, 0, none⟩)), (10, .pointer (some ⟨b10, 0, none⟩)), (8, .int .i64 i), (7, v7), (3, .pointer (some ⟨b3, 0, none⟩)), (4, .pointer (some ⟨b4, 0, none⟩)), (5, .pointer (some ⟨b5, 0, none⟩)), (6, .pointer (some ⟨b6, 0, none⟩))])
      (fun _ => (b9, .cells (u8s (if bitOf m i = 1 then ps else markH po)).toArray 23 (0, 0)) :: (b10, .cells (u8s (if bitOf m i = 1 then markH po else ps)).toArray 23 (0, 0)) :: (bl7 ++ [(b6, .cells ti23.zero.cells 23 (0, 0)), (b5, .cells (u8s sh).toArray 27 (0, 0)), (b4, .cells (u8s op).toArray 27 (0, 0)), (b3, .cells (u8s m).toArray 23 (0, 0))])) ?_ (fun _ => ?_)
    · (repeat refine RC.seq ?_); refine RC.cond rfl (fun h => ?_) (fun h => ?_)
      · have h1 := of_decide_eq_true h
        rw [if_pos h1, if_pos h1]
        refine RC.region ?_
        refine Run.v rfl rfl rfl (Val.loadU tabOk rfl rfl rfl rfl m1 q2) ?_
        refine Run.v rfl rfl rfl (Val.loadU tabOk rfl rfl rfl rfl m0 o1) ?_
        refine Run.op rfl (OpTo.setAll tabOk rfl rfl rfl rfl rfl (List.Perm.refl _) q2 (by simp [u8s_len, o1]; rfl)) (fun _ => ?_)
        refine Run.op rfl (OpTo.setAll tabOk rfl rfl rfl rfl rfl p1 o1 (by simp [u8s_len, q2]; rfl)) (fun _ => ?_)
        exact Run.nil (RQ.toP () ⟨rfl, rfl, rfl, rfl, rfl, rfl, rfl, rfl, trivial⟩ p1 (List.Sublist.refl _))
      · have h1 := of_decide_eq_false h
        rw [if_neg h1, if_neg h1]
        exact RC.skip (RQ.to () ⟨rfl, rfl, rfl, rfl, rfl, rfl, rfl, rfl, trivial⟩ (List.Sublist.refl _))
    have x1l : (if bitOf m i = 1 then ps else markH po).length = 8 := by split <;> assumption
    have x2l : (if bitOf m i = 1 then markH po else ps).length = 8 := by split <;> assumption
    generalize (if bitOf m i = 1 then ps else markH po) = x1 at *
    generalize (if bitOf m i = 1 then markH po else ps) = x2 at *
    (repeat refine RC.seq ?_); refine RC.draw [] mixed (N := 6) rfl ?_
    refine DR.take 0 rfl (List.nil_sublist _) inferInstance (by kernel_rfl) (by kernel_rfl) (by kernel_rfl) (by kernel_rfl) rfl rfl (Wanted.plain rfl) (Val.of rfl) ?_
    refine DR.take 1 rfl (List.nil_sublist _) inferInstance (by kernel_rfl) (by kernel_rfl) (by kernel_rfl) (by kernel_rfl) rfl rfl (Wanted.plain rfl) (Val.sliceA tabOk rfl rfl rfl rfl rfl) ?_
    refine DR.take 3 rfl (List.nil_sublist _) inferInstance (by kernel_rfl) (by kernel_rfl) (by kernel_rfl) (by kernel_rfl) rfl rfl (Wanted.plain rfl) (Val.sliceA tabOk rfl rfl rfl rfl rfl) ?_
    refine DR.one (i := 2) (by kernel_rfl) (DOp.op rfl (Wanted.plain rfl) (OpTo.append tabOk hown (Src.at ⟨b9, 0, none⟩ 8 8 (u8s x1) (by rw [u8s_len, x1l]; rfl) (Rd.rowAll m0)) rfl rfl rfl rfl rfl rfl rfl rfl rfl (List.perm_append_comm_assoc [_, _] bl7 _) (u8s_one _) (by unfold maxLen; omega) (by simp only [ti5]; omega)) (.inl fun _ => List.nil_sublist _) ?_)
    rintro ⟨⟨v8, bl8⟩, hown8⟩
    refine DR.one (i := 4) (by kernel_rfl) (DOp.op rfl (Wanted.plain rfl) (OpTo.append tabOk hown8 (Src.at ⟨b10, 0, none⟩ 8 8 (u8s x2) (by rw [u8s_len, x2l]; rfl) (Rd.rowAll (List.mem_append_right _ m1))) rfl rfl rfl rfl rfl rfl rfl rfl rfl (List.Perm.refl _) (u8s_one _) (by unfold maxLen; omega) (by simp only [ti5]; omega)) (.inl fun _ => List.nil_sublist _) ?_)
    rintro ⟨⟨v9, bl9⟩, hown9⟩
    refine DR.one (i := 5) (by kernel_rfl) ?_
    refine DOp.val rfl (.inr (by kernel_rfl)) rfl rfl (Wanted.plain rfl) (Val.of rfl) ?_
    refine DR.done (by kernel_rfl) (RQ.blockNormal (RQ.next ?_))
    refine RC.region ?_
    repeat (first | refine Run.v rfl rfl rfl (Val.ar rfl rfl rfl rfl (by dsimp only [inK]; omega)) ?_ | refine Run.v rfl rfl rfl (Val.of rfl) ?_)
    refine Run.nil (RQ.up (i + 1) (v9, bl9) (Nat.lt_succ_self _) hi' ?_ ⟨rfl, rfl, rfl, rfl, rfl, rfl, trivial⟩ (List.Sublist.append (List.Sublist.refl _) (List.Sublist.cons _ (List.Sublist.cons _ (List.Sublist.refl _)))))
    have h := hown9
    rw [← u8s_app, ← u8s_app, List.append_assoc, ← et, ← e1, show 16 * i + 8 + 8 = 16 * (i + 1) by omega] at h
    exact h
  · have hi' : i = 16 := by have := of_decide_eq_false h; omega
    subst hi'
    have hl : (rowOf (turnd m op sh) 16).length = 256 := by have := hown.len; rwa [u8s_len, Nat.mul_one] at this
    have hlt := rowOf_lt (fun i => turnd_lt (m := m) (op := op) hshlt i) 16
    have hd : (pubBy m op sh).length = 8 := digest_len _ _
    have e : digest 107 [rowOf (turnd m op sh) 16] = pubBy m op sh := rfl
    generalize rowOf (turnd m op sh) 16 = l at *
    (repeat refine RQ.thenExit ?_); refine RQ.blockHere ?_
    refine RQ.next ?_
    obtain ⟨a, c, rfl, hc⟩ := hown.shape
    (repeat refine RC.seq ?_); refine RC.region ?_
    refine Run.v rfl rfl rfl (Val.of rfl) ?_
    refine Run.mk rfl rfl rfl (New.buildSlice tabOk (parts := [(0, .tmp 33)]) (cells := [Value.slice a (16 * 16) c].toArray) rfl rfl rfl rfl rfl rfl (fillS_full 1 1 _ [Value.slice a (16 * 16) c] rfl (by simp [Value.cells]))) ?_
    intro b22
    refine Run.callV Tryd.func44 rfl rfl rfl rfl rfl rfl rfl (fun w' hm => Digest_calls 107 (by decide) _ _ [l] w' (SrcW.row hm m0 rfl (Nat.le_refl 1)) (parts1' (u := .slice a (16 * 16) c) (by rw [hl]; exact hown.srcW (fun q hq => hm.has q (List.mem_cons_of_mem _ (List.mem_append_left _ hq))))) (by simp [tot, hl]) (by simpa using hlt)) ?_
    rw [e]
    generalize pubBy m op sh = dg at *
    refine Run.op rfl (OpTo.setAll (L' := _ :: (bl7 ++ _)) tabOk rfl rfl rfl rfl rfl ((List.Perm.cons _ List.perm_middle).trans p1) hd rfl) (fun _ => ?_)
    refine Run.nil (RQ.next ?_)
    refine RC.ret ?_; (repeat first | refine RQ.thenRet ?_ | refine RQ.blockRet ?_)
    exact RQ.ret1 rfl (Res.cellU tabOk rfl rfl rfl m0 hd) fun w' hm => ⟨rfl, hm.fr⟩
end Go.Proofs.YtilfbomjaflbjaaDoor
