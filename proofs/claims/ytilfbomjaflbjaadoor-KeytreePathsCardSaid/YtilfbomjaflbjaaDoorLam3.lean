/- lamport: a key's Public; Public; the reference's Public. -/
import Derived.Test.YtilfbomjaflbjaaDoorLam2
namespace Go.Sha
theorem zeros16 (k : Nat) : List.replicate (16 + k) 0 = List.replicate 8 0 ++ (List.replicate 8 0 ++ List.replicate k (0 : Nat)) := by
  rw [List.replicate_append_replicate, List.replicate_append_replicate]
  congr 1
  omega
/-- Two pieces of 8, written in the order of a bit. -/
theorem turn_wr (m op sh ro rest : List Nat) (i : Nat) (hro : ro.length = i * 16) :
    ∃ p1 q1 p2 q2 : List Nat, ro ++ (List.replicate 8 0 ++ (List.replicate 8 0 ++ rest)) = p1 ++ List.replicate 8 0 ++ q1 ∧ i * 16 + bitOf m i * 8 = p1.length ∧ p1 ++ markH (pc 8 op i) ++ q1 = p2 ++ List.replicate 8 0 ++ q2 ∧ i * 16 + (1 - bitOf m i) * 8 = p2.length ∧
      p2 ++ pc 8 sh i ++ q2 = ro ++ turnd m op sh i ++ rest := by
  have hb := bitOf_lt m i
  have hm := mark_len (pc 8 op i)
  by_cases h : bitOf m i = 1
  · refine ⟨ro ++ List.replicate 8 0, rest, ro, markH (pc 8 op i) ++ rest, ?_, ?_, ?_, ?_, ?_⟩
    · simp only [List.append_assoc]
    · rw [h, List.length_append, hro]; simp
    · simp only [List.append_assoc]
    · rw [h, hro]; simp
    · unfold turnd; rw [if_pos h]; simp only [List.append_assoc]
  · have h0 : bitOf m i = 0 := by omega
    refine ⟨ro, List.replicate 8 0 ++ rest, ro ++ markH (pc 8 op i), rest, ?_, ?_, ?_, ?_, ?_⟩
    · simp only [List.append_assoc]
    · rw [h0, hro]; simp
    · simp only [List.append_assoc]
    · rw [h0, List.length_append, hro, hm]
    · unfold turnd; rw [if_neg h]; simp only [List.append_assoc]
theorem turnd_len (m op sh : List Nat) (i : Nat) (ho : (pc 8 sh i).length = 8) : (turnd m op sh i).length = 16 := by
  unfold turnd
  split <;> simp [mark_len, ho]
end Go.Sha
namespace Go.Proofs.YtilfbomjaflbjaaDoor
open Go Go.Vc Go.Sha

set_option maxRecDepth 10000 in
theorem Key_Public_calls (kb : Nat) (seed : List Nat) (ib : Nat) (w : World) (hK : Laid w)
    (hk : w.heap[kb]? = some (.cells (u8s (rowOf (secs seed ib) 16)).toArray 88 (0, 0))) :
    Gives Tryd.prog 32 [.pointer (some ⟨kb, 0, none⟩)] (.agg (u8s (pubKey seed ib)).toArray) w := by
  refine enter Tryd.func32 rfl (Mem.nil w []) rfl ?_
  have hsec := rowOf_len (secs_len seed ib) 16
  have hpc := fun {i : Nat} (hi : i < 16) => pc_rowOf (secs_len seed ib) hi
  (repeat refine RC.seq ?_); refine RC.region ?_
  refine Run.mk rfl rfl rfl (New.alloc tabOk rfl rfl) ?_
  intro b2
  refine Run.nil (RQ.next ?_)
  (repeat refine RC.seq ?_); refine RC.region ?_
  refine Run.v rfl rfl rfl (Val.of rfl) ?_
  refine Run.v rfl rfl rfl (Val.ptrNil tabOk rfl rfl rfl rfl rfl) ?_
  refine Run.nil (RQ.next ?_)
  (repeat refine RC.seq ?_); refine RC.condF rfl rfl (RC.skip (RQ.next ?_))
  (repeat refine RC.seq ?_); refine RC.region ?_
  refine Run.mk rfl rfl rfl (New.allocTo tabOk (cs := (u8s (rowOf (mrks seed ib) 0 ++ List.replicate ((16 - 0) * 16) 0)).toArray) rfl rfl (by kernel_rfl)) ?_
  intro b3
  refine Run.nil (RQ.next ?_)
  (repeat refine RC.seq ?_); refine RC.region ?_
  refine Run.v rfl rfl rfl (Val.of rfl) ?_
  refine Run.v rfl rfl rfl (Val.of rfl) ?_
  refine Run.v rfl rfl rfl (Val.fieldAddr tabOk rfl rfl rfl rfl rfl rfl rfl rfl) ?_
  refine Run.v rfl rfl rfl (Val.loadOldU tabOk rfl rfl rfl rfl rfl hk hsec) ?_
  refine Run.v rfl rfl rfl (Val.of rfl) ?_
  refine Run.nil (RQ.next ?_)
  generalize rowOf (secs seed ib) 16 = sec at *
  (repeat refine RC.seq ?_); refine RC.block ?_
  refine RC.up 16 (D := Unit) (fun _ _ => True)
    (fun i _ => [(15, .int .i64 i), (14, .agg (u8s sec).toArray), (3, .pointer (some ⟨b3, 0, none⟩)), (2, .pointer (some ⟨b2, 0, none⟩))])
    (fun i _ => [(b3, .cells (u8s (rowOf (mrks seed ib) i ++ List.replicate ((16 - i) * 16) 0)).toArray 86 (0, 0)), (b2, .cells ti23.zero.cells 23 (0, 0))])
    0 () (Nat.zero_le _) trivial ⟨rfl, rfl, rfl, rfl, trivial⟩ (List.Sublist.refl _) ?_
  intro i _ hi _
  (repeat refine RC.seq ?_); refine RC.region ?_
  refine Run.v rfl rfl rfl (Val.of rfl) ?_
  refine Run.nil (RQ.next ?_)
  (repeat refine RC.seq ?_); refine RC.wh rfl (fun h => RQ.next ?_) (fun h => ?_)
  · have hi' : i < 16 := by have := of_decide_eq_true h; omega
    clear h
    have l1 := rowOf_len (mrks_len seed ib) i
    have e1 : rowOf (mrks seed ib) (i + 1) = rowOf (mrks seed ib) i ++ rowOf (fun b => markH (secret seed ib i b)) 2 := by rw [mrks_row]; rfl
    have s1 := secs_len seed ib i
    have hp := hpc hi'
    have hq := fun {b : Nat} (hb : b < 2) => pc_secs seed ib i b hb
    generalize secs seed ib i = sc at *
    (repeat refine RC.seq ?_); refine RC.block ?_
    (repeat refine RC.seq ?_); refine RC.region ?_
    refine Run.v rfl rfl rfl (Val.of rfl) ?_
    refine Run.v rfl rfl rfl (Val.eq (Val.indexU tabOk i (c := 16) rfl rfl rfl rfl rfl rfl rfl rfl hi' rfl) (congrArg (fun l => Value.agg (u8s l).toArray) hp)) ?_
    refine Run.mk rfl rfl rfl (New.alloc tabOk rfl rfl) ?_
    intro b5
    refine Run.v rfl rfl rfl (Val.of rfl) ?_
    refine Run.op rfl (OpTo.setAll tabOk rfl rfl rfl rfl rfl (List.Perm.refl _) s1 rfl) (fun _ => ?_)
    refine Run.nil (RQ.next ?_)
    (repeat refine RC.seq ?_); refine RC.region ?_
    refine Run.v rfl rfl rfl (Val.loadU tabOk rfl rfl rfl rfl m0 s1) ?_
    refine Run.v rfl rfl rfl (Val.of rfl) ?_
    refine Run.nil (RQ.next ?_)
    (repeat refine RC.seq ?_); refine RC.block ?_
    refine RC.up 2 (D := Unit) (fun _ _ => True)
      (fun b _ => [(20, .int .i64 b), (19, .agg (u8s sc).toArray), (4, .int .i64 i), (15, .int .i64 i), (14, .agg (u8s sec).toArray), (3, .pointer (some ⟨b3, 0, none⟩)), (2, .pointer (some ⟨b2, 0, none⟩))])
      (fun b _ => [(b3, .cells (u8s (rowOf (mrks seed ib) i ++ rowOf (fun b => markH (secret seed ib i b)) b ++ List.replicate ((16 - i) * 16 - b * 8) 0)).toArray 86 (0, 0)), (b2, .cells ti23.zero.cells 23 (0, 0))])
      0 () (Nat.zero_le _) trivial ⟨rfl, rfl, rfl, rfl, rfl, rfl, rfl, trivial⟩ (by simp only [rowOf, List.append_nil, Nat.zero_mul, Nat.sub_zero]; exact List.Sublist.cons _ (List.Sublist.refl _)) ?_
    intro b _ hb _
    (repeat refine RC.seq ?_); refine RC.region ?_
    refine Run.v rfl rfl rfl (Val.of rfl) ?_
    refine Run.nil (RQ.next ?_)
    (repeat refine RC.seq ?_); refine RC.wh rfl (fun h => RQ.next ?_) (fun h => ?_)
    · have hb' : b < 2 := by have := of_decide_eq_true h; omega
      clear h
      have z1 := zrow2 (mrks seed ib) (fun b => markH (secret seed ib i b)) i b (fun b => mark_len _) hi' hb'
      have l2 := rowOf_len (f := fun b => markH (secret seed ib i b)) (fun b => mark_len _) b
      have e2 : rowOf (mrks seed ib) i ++ rowOf (fun b => markH (secret seed ib i b)) (b + 1) = rowOf (mrks seed ib) i ++ rowOf (fun b => markH (secret seed ib i b)) b ++ markH (secret seed ib i b) := by rw [List.append_assoc]; rfl
      have hqb := hq hb'
      have t1 := secret_len seed ib i b
      have t2 := secret_lt seed ib i b
      have o1 := mark_len (secret seed ib i b)
      (repeat refine RC.seq ?_); refine RC.block ?_
      rw [z1]
      clear z1
      have hpl : (rowOf (mrks seed ib) i ++ rowOf (fun b => markH (secret seed ib i b)) b).length = i * 16 + b * 8 := by rw [List.length_append, l1, l2]
      generalize rowOf (mrks seed ib) i ++ rowOf (fun b => markH (secret seed ib i b)) b = ro at *
      (repeat refine RC.seq ?_); refine RC.region ?_
      refine Run.v rfl rfl rfl (Val.of rfl) ?_
      refine Run.v rfl rfl rfl (Val.eq (Val.indexU tabOk b (c := 8) rfl rfl rfl rfl rfl rfl rfl rfl hb' rfl) (congrArg (fun l => Value.agg (u8s l).toArray) hqb)) ?_
      refine Run.mk rfl rfl rfl (New.alloc tabOk rfl rfl) ?_
      intro b7
      refine Run.v rfl rfl rfl (Val.of rfl) ?_
      refine Run.op rfl (OpTo.setAll tabOk rfl rfl rfl rfl rfl (List.Perm.refl _) t1 rfl) (fun _ => ?_)
      refine Run.nil (RQ.next ?_)
      (repeat refine RC.seq ?_); refine RC.draw ([(b7, .cells (u8s (secret seed ib i b)).toArray 23 (0, 0))]) mixed (N := 7) rfl ?_
      refine DR.take 0 rfl (by repeat (first | exact List.nil_sublist _ | exact List.Sublist.refl _ | apply List.Sublist.cons_cons | apply List.Sublist.cons)) inferInstance (by kernel_rfl) (by kernel_rfl) (by kernel_rfl) (by kernel_rfl) rfl rfl (Wanted.plain rfl) (Val.of rfl) ?_
      refine DR.take 1 rfl (by repeat (first | exact List.nil_sublist _ | exact List.Sublist.refl _ | apply List.Sublist.cons_cons | apply List.Sublist.cons)) inferInstance (by kernel_rfl) (by kernel_rfl) (by kernel_rfl) (by kernel_rfl) rfl rfl (Wanted.plain rfl) (Val.of rfl) ?_
      refine DR.take 2 rfl (by repeat (first | exact List.nil_sublist _ | exact List.Sublist.refl _ | apply List.Sublist.cons_cons | apply List.Sublist.cons)) inferInstance (by kernel_rfl) (by kernel_rfl) (by kernel_rfl) (by kernel_rfl) rfl rfl (Wanted.plain rfl) (Val.loadU tabOk rfl rfl rfl rfl m0 t1) ?_
      refine DR.take 4 rfl (by repeat (first | exact List.nil_sublist _ | exact List.Sublist.refl _ | apply List.Sublist.cons_cons | apply List.Sublist.cons)) inferInstance (by kernel_rfl) (by kernel_rfl) (by kernel_rfl) (by kernel_rfl) rfl rfl (Wanted.plain rfl) (Val.ix tabOk i (off' := i * 16) rfl rfl rfl rfl rfl rfl rfl hi' (by simp [ti85])) ?_
      refine DR.one (i := 3) (by kernel_rfl) ?_
      refine DOp.op rfl (Wanted.plain rfl) (OpTo.callV Tryd.func54 rfl rfl rfl rfl rfl rfl (fun w' hm => lam_mark_calls _ t1 t2 w' (hK.fr hm.fr (by simp)))) (.inl fun _ => (by repeat (first | exact List.nil_sublist _ | exact List.Sublist.refl _ | apply List.Sublist.cons_cons | apply List.Sublist.cons))) (fun _ => ?_)
      refine DR.take 5 rfl (by repeat (first | exact List.nil_sublist _ | exact List.Sublist.refl _ | apply List.Sublist.cons_cons | apply List.Sublist.cons)) inferInstance (by kernel_rfl) (by kernel_rfl) (by kernel_rfl) (by kernel_rfl) rfl rfl (Wanted.plain rfl) (Val.ix tabOk b (off' := i * 16 + b * 8) rfl rfl rfl rfl rfl rfl rfl hb' (by simp [ti23])) ?_
      refine DR.one (i := 6) (by kernel_rfl) ?_
      refine DOp.op rfl (Wanted.plain rfl) (OpTo.setU tabOk ro (List.replicate (markH (secret seed ib i b)).length 0) (markH (secret seed ib i b)) (List.replicate ((16 - i) * 16 - (b + 1) * 8) 0) rfl rfl rfl rfl rfl p1 rfl hpl.symm (by simp) o1) (.inr (by kernel_rfl)) (fun _ => ?_)
      rw [← e2]
      refine DR.done (by kernel_rfl) (RQ.blockNormal (RQ.next ?_))
      refine RC.region ?_
      repeat (first | refine Run.v rfl rfl rfl (Val.ar rfl rfl rfl rfl (by dsimp only [inK]; omega)) ?_ | refine Run.v rfl rfl rfl (Val.of rfl) ?_)
      exact Run.nil (RQ.up (b + 1) () (Nat.lt_succ_self _) hb' trivial ⟨rfl, rfl, rfl, rfl, rfl, rfl, rfl, trivial⟩ (List.Sublist.cons_cons _ (List.Sublist.cons _ (List.Sublist.refl _))))
    · have hb' : b = 2 := by have := of_decide_eq_false h; omega
      subst hb'
      (repeat refine RQ.thenExit ?_); refine RQ.blockHere ?_
      refine RQ.blockNormal (RQ.next ?_)
      rw [← e1, show (16 - i) * 16 - 2 * 8 = (16 - (i + 1)) * 16 by omega]
      refine RC.region ?_
      repeat (first | refine Run.v rfl rfl rfl (Val.ar rfl rfl rfl rfl (by dsimp only [inK]; omega)) ?_ | refine Run.v rfl rfl rfl (Val.of rfl) ?_)
      exact Run.nil (RQ.up (i + 1) () (Nat.lt_succ_self _) hi' trivial ⟨rfl, rfl, rfl, rfl, trivial⟩ (List.Sublist.refl _))
  · have hi' : i = 16 := by have := of_decide_eq_false h; omega
    subst hi'
    have l1 := rowOf_len (mrks_len seed ib) 16
    have l2 := rowOf_lt (mrks_lt seed ib) 16
    have hd : (pubKey seed ib).length = 8 := digest_len _ _
    have e : pubKey seed ib = pubOf (rowOf (mrks seed ib) 16) := rfl
    rw [show (16 - 16) * 16 = 0 from rfl, List.replicate_zero, List.append_nil]
    generalize rowOf (mrks seed ib) 16 = ro at *
    (repeat refine RQ.thenExit ?_); refine RQ.blockHere ?_
    refine RQ.next ?_
    (repeat refine RC.seq ?_); refine RC.region ?_
    refine Run.v rfl rfl rfl (Val.loadU tabOk rfl rfl rfl rfl m0 l1) ?_
    refine Run.callV Tryd.func55 rfl rfl rfl rfl rfl rfl rfl (fun w' hm => public_calls _ l1 l2 w' (hK.fr hm.fr (by simp))) ?_
    rw [← e]
    refine Run.op rfl (OpTo.setAll tabOk rfl rfl rfl rfl rfl p1 hd rfl) (fun _ => ?_)
    refine Run.nil (RQ.next ?_)
    refine RC.ret ?_; (repeat first | refine RQ.thenRet ?_ | refine RQ.blockRet ?_)
    exact RQ.ret1 rfl (Res.cellU tabOk rfl rfl rfl m0 hd) fun w' hm => ⟨rfl, hm.fr⟩

set_option maxRecDepth 10000 in
theorem lam_Public_calls (m op sh : List Nat) (hm8 : m.length = 8) (hmlt : ∀ x ∈ m, x < 256) (hop : op.length = 128) (hoplt : ∀ x ∈ op, x < 256) (hsh : sh.length = 128) (hshlt : ∀ x ∈ sh, x < 256) (w : World) (hK : Laid w) :
    Gives Tryd.prog 40 [.agg (u8s m).toArray, .agg (u8s op).toArray, .agg (u8s sh).toArray] (.agg (u8s (pubBy m op sh)).toArray) w := by
  refine enter Tryd.func40 rfl (Mem.nil w []) rfl ?_
  have hq1 := fun {i : Nat} (hi : i < 16) => pc_len (c := 8) (n := 16) hop hi
  have hq2 := fun {i : Nat} (hi : i < 16) => pc_len (c := 8) (n := 16) hsh hi
  (repeat refine RC.seq ?_); refine RC.region ?_
  refine Run.mk rfl rfl rfl (New.boxA rfl rfl) ?_
  intro b3
  refine Run.mk rfl rfl rfl (New.boxA rfl rfl) ?_
  intro b4
  refine Run.mk rfl rfl rfl (New.boxA rfl rfl) ?_
  intro b5
  refine Run.mk rfl rfl rfl (New.alloc tabOk rfl rfl) ?_
  intro b6
  refine Run.nil (RQ.next ?_)
  (repeat refine RC.seq ?_); refine RC.region ?_
  refine Run.mk rfl rfl rfl (New.allocTo tabOk (cs := (u8s (rowOf (turnd m op sh) 0 ++ List.replicate ((16 - 0) * 16) 0)).toArray) rfl rfl (by kernel_rfl)) ?_
  intro b7
  refine Run.nil (RQ.next ?_)
  (repeat refine RC.seq ?_); refine RC.region ?_
  refine Run.v rfl rfl rfl (Val.loadU tabOk rfl rfl rfl rfl m3 hop) ?_
  refine Run.v rfl rfl rfl (Val.of rfl) ?_
  refine Run.nil (RQ.next ?_)
  (repeat refine RC.seq ?_); refine RC.block ?_
  refine RC.up 16 (D := Unit) (fun i _ => (rowOf (turnd m op sh) i).length = i * 16)
    (fun i _ => [(12, .int .i64 i), (11, .agg (u8s op).toArray), (3, .pointer (some ⟨b3, 0, none⟩)), (5, .pointer (some ⟨b5, 0, none⟩)), (6, .pointer (some ⟨b6, 0, none⟩)), (7, .pointer (some ⟨b7, 0, none⟩))])
    (fun i _ => [(b7, .cells (u8s (rowOf (turnd m op sh) i ++ List.replicate ((16 - i) * 16) 0)).toArray 86 (0, 0)), (b6, .cells ti23.zero.cells 23 (0, 0)), (b5, .cells (u8s sh).toArray 27 (0, 0)), (b3, .cells (u8s m).toArray 23 (0, 0))])
    0 () (Nat.zero_le _) rfl ⟨rfl, rfl, rfl, rfl, rfl, rfl, trivial⟩ (List.Sublist.cons_cons _ (List.Sublist.cons_cons _ (List.Sublist.cons_cons _ (List.Sublist.cons _ (List.Sublist.refl _))))) ?_
  intro i _ hi hro
  (repeat refine RC.seq ?_); refine RC.region ?_
  refine Run.v rfl rfl rfl (Val.of rfl) ?_
  refine Run.nil (RQ.next ?_)
  (repeat refine RC.seq ?_); refine RC.wh rfl (fun h => RQ.next ?_) (fun h => ?_)
  · have hi' : i < 16 := by have := of_decide_eq_true h; omega
    clear h
    have hb := bitOf_lt m i
    have q1 := hq1 hi'
    have q2 := hq2 hi'
    have q3 := pc_lt (c := 8) hoplt i
    have o1 := mark_len (pc 8 op i)
    have e1 : rowOf (turnd m op sh) (i + 1) = rowOf (turnd m op sh) i ++ turnd m op sh i := rfl
    have l2 : (rowOf (turnd m op sh) (i + 1)).length = (i + 1) * 16 := by rw [e1, List.length_append, hro, turnd_len m op sh i q2, Nat.succ_mul]
    obtain ⟨P1, Q1, P2, Q2, w1, w2, w3, w4, w5⟩ := turn_wr m op sh (rowOf (turnd m op sh) i) (List.replicate ((16 - (i + 1)) * 16) 0) i hro
    have z1 : List.replicate ((16 - i) * 16) 0 = List.replicate 8 0 ++ (List.replicate 8 0 ++ List.replicate ((16 - (i + 1)) * 16) 0) := by
      rw [← zeros16]; congr 1; omega
    rw [← e1] at w5
    (repeat refine RC.seq ?_); refine RC.block ?_
    rw [z1]
    clear z1 e1 hro
    generalize rowOf (turnd m op sh) i = ro at *
    generalize hpe : pc 8 op i = po at *
    generalize hse : pc 8 sh i = ps at *
    (repeat refine RC.seq ?_); refine RC.region ?_
    refine Run.v rfl rfl rfl (Val.of rfl) ?_
    refine Run.v rfl rfl rfl (Val.eq (Val.indexU tabOk i (c := 8) rfl rfl rfl rfl rfl rfl rfl rfl hi' rfl) (congrArg (fun l => Value.agg (u8s l).toArray) hpe)) ?_
    refine Run.mk rfl rfl rfl (New.alloc tabOk rfl rfl) ?_
    intro b9
    refine Run.v rfl rfl rfl (Val.of rfl) ?_
    refine Run.op rfl (OpTo.setAll tabOk rfl rfl rfl rfl rfl (List.Perm.refl _) q1 rfl) (fun _ => ?_)
    refine Run.nil (RQ.next ?_)
    (repeat refine RC.seq ?_); refine RC.region ?_
    refine Run.v rfl rfl rfl (Val.loadU tabOk rfl rfl rfl rfl m4 hm8) ?_
    refine Run.v rfl rfl rfl (Val.of rfl) ?_
    refine Run.callV Tryd.func56 rfl rfl rfl rfl rfl rfl rfl (fun w' _ => lam_bit_calls m hm8 hmlt i (by omega) w') ?_
    refine Run.v rfl rfl rfl (Val.of rfl) ?_
    refine Run.nil (RQ.next ?_)
    (repeat refine RC.seq ?_); refine RC.draw ([(b9, .cells (u8s po).toArray 23 (0, 0)), (b5, .cells (u8s sh).toArray 27 (0, 0))]) mixed (N := 16) rfl ?_
    refine DR.take 0 rfl (by repeat (first | exact List.nil_sublist _ | exact List.Sublist.refl _ | apply List.Sublist.cons_cons | apply List.Sublist.cons)) inferInstance (by kernel_rfl) (by kernel_rfl) (by kernel_rfl) (by kernel_rfl) rfl rfl (Wanted.plain rfl) (Val.of rfl) ?_
    refine DR.take 1 rfl (by repeat (first | exact List.nil_sublist _ | exact List.Sublist.refl _ | apply List.Sublist.cons_cons | apply List.Sublist.cons)) inferInstance (by kernel_rfl) (by kernel_rfl) (by kernel_rfl) (by kernel_rfl) rfl rfl (Wanted.plain rfl) (Val.of rfl) ?_
    refine DR.take 2 rfl (by repeat (first | exact List.nil_sublist _ | exact List.Sublist.refl _ | apply List.Sublist.cons_cons | apply List.Sublist.cons)) inferInstance (by kernel_rfl) (by kernel_rfl) (by kernel_rfl) (by kernel_rfl) rfl rfl (Wanted.plain rfl) (Val.of rfl) ?_
    refine DR.take 3 rfl (by repeat (first | exact List.nil_sublist _ | exact List.Sublist.refl _ | apply List.Sublist.cons_cons | apply List.Sublist.cons)) inferInstance (by kernel_rfl) (by kernel_rfl) (by kernel_rfl) (by kernel_rfl) rfl rfl (Wanted.plain rfl) (Val.of rfl) ?_
    refine DR.take 4 rfl (by repeat (first | exact List.nil_sublist _ | exact List.Sublist.refl _ | apply List.Sublist.cons_cons | apply List.Sublist.cons)) inferInstance (by kernel_rfl) (by kernel_rfl) (by kernel_rfl) (by kernel_rfl) rfl rfl (Wanted.plain rfl) (Val.eq (Val.ar rfl rfl rfl rfl (by dsimp only [inK]; omega)) (show _ = Value.int .i64 ((1 - bitOf m i : Nat) : Int) from by congr 1; omega)) ?_
    refine DR.take 5 rfl (by repeat (first | exact List.nil_sublist _ | exact List.Sublist.refl _ | apply List.Sublist.cons_cons | apply List.Sublist.cons)) inferInstance (by kernel_rfl) (by kernel_rfl) (by kernel_rfl) (by kernel_rfl) rfl rfl (Wanted.plain rfl) (Val.loadU tabOk rfl rfl rfl rfl m0 q1) ?_
    refine DR.take 7 rfl (by repeat (first | exact List.nil_sublist _ | exact List.Sublist.refl _ | apply List.Sublist.cons_cons | apply List.Sublist.cons)) inferInstance (by kernel_rfl) (by kernel_rfl) (by kernel_rfl) (by kernel_rfl) rfl rfl (Wanted.plain rfl) (Val.of rfl) ?_
    refine DR.take 8 rfl (by repeat (first | exact List.nil_sublist _ | exact List.Sublist.refl _ | apply List.Sublist.cons_cons | apply List.Sublist.cons)) inferInstance (by kernel_rfl) (by kernel_rfl) (by kernel_rfl) (by kernel_rfl) rfl rfl (Wanted.plain rfl) (Val.ix tabOk i (off' := i * 8) rfl rfl rfl rfl rfl rfl rfl hi' (by simp [ti23])) ?_
    refine DR.take 9 rfl (by repeat (first | exact List.nil_sublist _ | exact List.Sublist.refl _ | apply List.Sublist.cons_cons | apply List.Sublist.cons)) inferInstance (by kernel_rfl) (by kernel_rfl) (by kernel_rfl) (by kernel_rfl) rfl rfl (Wanted.plain rfl) (Val.eq (Val.loadPc tabOk i (c := 8) rfl rfl rfl rfl m1 rfl rfl (by rw [hse]; exact q2)) (congrArg (fun l => Value.agg (u8s l).toArray) hse)) ?_
    refine DR.take 10 rfl (by repeat (first | exact List.nil_sublist _ | exact List.Sublist.refl _ | apply List.Sublist.cons_cons | apply List.Sublist.cons)) inferInstance (by kernel_rfl) (by kernel_rfl) (by kernel_rfl) (by kernel_rfl) rfl rfl (Wanted.plain rfl) (Val.ix tabOk i (off' := i * 16) rfl rfl rfl rfl rfl rfl rfl hi' (by simp [ti85])) ?_
    refine DR.take 13 rfl (by repeat (first | exact List.nil_sublist _ | exact List.Sublist.refl _ | apply List.Sublist.cons_cons | apply List.Sublist.cons)) inferInstance (by kernel_rfl) (by kernel_rfl) (by kernel_rfl) (by kernel_rfl) rfl rfl (Wanted.plain rfl) (Val.ix tabOk i (off' := i * 16) rfl rfl rfl rfl rfl rfl rfl hi' (by simp [ti85])) ?_
    refine DR.one (i := 6) (by kernel_rfl) ?_
    refine DOp.op rfl (Wanted.plain rfl) (OpTo.callV Tryd.func54 rfl rfl rfl rfl rfl rfl (fun w' hm => lam_mark_calls _ q1 q3 w' (hK.fr hm.fr (by simp)))) (.inl fun _ => (by repeat (first | exact List.nil_sublist _ | exact List.Sublist.refl _ | apply List.Sublist.cons_cons | apply List.Sublist.cons))) (fun _ => ?_)
    refine DR.take 11 rfl (by repeat (first | exact List.nil_sublist _ | exact List.Sublist.refl _ | apply List.Sublist.cons_cons | apply List.Sublist.cons)) inferInstance (by kernel_rfl) (by kernel_rfl) (by kernel_rfl) (by kernel_rfl) rfl rfl (Wanted.plain rfl) (Val.ix tabOk (bitOf m i) (off' := i * 16 + bitOf m i * 8) rfl rfl rfl rfl rfl rfl rfl hb (by simp [ti23])) ?_
    refine DR.one (i := 12) (by kernel_rfl) ?_
    refine DOp.op rfl (Wanted.plain rfl) (OpTo.setU tabOk P1 (List.replicate 8 0) (markH po) Q1 rfl rfl rfl rfl rfl p1 w1 w2 (by rw [o1]; rfl) o1) (.inl fun _ => (by repeat (first | exact List.nil_sublist _ | exact List.Sublist.refl _ | apply List.Sublist.cons_cons | apply List.Sublist.cons))) (fun _ => ?_)
    refine DR.take 14 rfl (by repeat (first | exact List.nil_sublist _ | exact List.Sublist.refl _ | apply List.Sublist.cons_cons | apply List.Sublist.cons)) inferInstance (by kernel_rfl) (by kernel_rfl) (by kernel_rfl) (by kernel_rfl) rfl rfl (Wanted.plain rfl) (Val.ix tabOk (1 - bitOf m i) (off' := i * 16 + (1 - bitOf m i) * 8) rfl rfl rfl rfl rfl rfl rfl (by omega) (by simp [ti23])) ?_
    refine DR.one (i := 15) (by kernel_rfl) ?_
    refine DOp.op rfl (Wanted.plain rfl) (OpTo.setU tabOk P2 (List.replicate 8 0) ps Q2 rfl rfl rfl rfl rfl (List.Perm.refl _) w3 w4 (by rw [q2]; rfl) q2) (.inr (by kernel_rfl)) (fun _ => ?_)
    rw [w5]
    refine DR.done (by kernel_rfl) (RQ.blockNormal (RQ.next ?_))
    refine RC.region ?_
    repeat (first | refine Run.v rfl rfl rfl (Val.ar rfl rfl rfl rfl (by dsimp only [inK]; omega)) ?_ | refine Run.v rfl rfl rfl (Val.of rfl) ?_)
    exact Run.nil (RQ.up (i + 1) () (Nat.lt_succ_self _) hi' l2 ⟨rfl, rfl, rfl, rfl, rfl, rfl, trivial⟩ (List.Sublist.cons_cons _ (List.Sublist.cons _ (List.Sublist.refl _))))
  · have hi' : i = 16 := by have := of_decide_eq_false h; omega
    subst hi'
    have l2 := rowOf_lt (fun i => turnd_lt (m := m) (op := op) hshlt i) 16
    have hd : (pubBy m op sh).length = 8 := digest_len _ _
    have e : pubBy m op sh = pubOf (rowOf (turnd m op sh) 16) := rfl
    rw [show (16 - 16) * 16 = 0 from rfl, List.replicate_zero, List.append_nil]
    generalize rowOf (turnd m op sh) 16 = ro at *
    (repeat refine RQ.thenExit ?_); refine RQ.blockHere ?_
    refine RQ.next ?_
    (repeat refine RC.seq ?_); refine RC.region ?_
    refine Run.v rfl rfl rfl (Val.loadU tabOk rfl rfl rfl rfl m0 hro) ?_
    refine Run.callV Tryd.func55 rfl rfl rfl rfl rfl rfl rfl (fun w' hm => public_calls _ hro l2 w' (hK.fr hm.fr (by simp))) ?_
    rw [← e]
    refine Run.op rfl (OpTo.setAll tabOk rfl rfl rfl rfl rfl p1 hd rfl) (fun _ => ?_)
    refine Run.nil (RQ.next ?_)
    refine RC.ret ?_; (repeat first | refine RQ.thenRet ?_ | refine RQ.blockRet ?_)
    exact RQ.ret1 rfl (Res.cellU tabOk rfl rfl rfl m0 hd) fun w' hm => ⟨rfl, hm.fr⟩
end Go.Proofs.YtilfbomjaflbjaaDoor
