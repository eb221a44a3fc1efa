/- Lemmas. -/
import Derived.Test.YtkkfaffehbjdgaaGreatDoorPk12
set_option linter.unusedSimpArgs false
set_option linter.unusedVariables false
section
/- lamport: bit, markH, public, Make, Sign, Public. -/
namespace Go.Sha
end Go.Sha
namespace Go.Proofs.YtkkfaffehbjdgaaGreatDoor
open Go Go.Vc Go.Sha

set_option maxRecDepth 10000 in set_option maxHeartbeats 4000000 in
theorem lam_bit_calls (m : List Nat) (hm8 : m.length = 8) (hlt : ∀ x ∈ m, x < 256) (i : Nat) (hi : i < 64) (w : World) :
    Gives Tryz.prog 133 [.agg (u8s m).toArray, .int .i64 i] (.int .i64 (bitOf m i : Nat)) w := by
  refine enter Tryz.func133 rfl (Mem.nil w []) rfl ?_
  have hx := getD_lt hlt (i / 8)
  have hat := u8s_arr m (i / 8) (by omega)
  unfold bitOf
  generalize m.getD (i / 8) 0 = x at *
  (repeat refine RC.seq ?_); refine RC.region ?_
  refine Run.nw (New.boxA rfl rfl) ?_
  intro b2
  refine Run.a (Val.of rfl) ?_
  refine Run.nil (RQ.next ?_)
  (repeat refine RC.seq ?_); refine RC.region ?_
  refine Run.a (Val.of rfl) ?_
  refine Run.a (Val.quoN rfl rfl rfl rfl (by decide) (by simp only [inK]; omega)) ?_
  refine Run.a (Val.ix tabOk (i / 8) (off' := i / 8) rfl rfl rfl rfl rfl rfl rfl (by omega) (by simp [ti5])) ?_
  refine Run.a (Val.load tabOk rfl rfl rfl m0 hat) ?_
  refine Run.a (Val.of rfl) ?_
  refine Run.a (Val.remN rfl rfl rfl rfl (by decide)) ?_
  refine Run.a (Val.shr (m := i % 8) rfl rfl rfl (by show _ ≤ 8; omega)) ?_
  refine Run.a (Val.and1 rfl rfl rfl (Nat.lt_of_le_of_lt (Nat.div_le_self _ _) hx)) ?_
  refine Run.a (Val.convIn tabOk rfl rfl rfl rfl rfl rfl (by simp only [inK]; omega)) ?_
  refine Run.a (Val.of rfl) ?_
  refine Run.nil (RQ.next ?_)
  refine RC.ret ?_; (repeat first | refine RQ.thenRet ?_ | refine RQ.blockRet ?_); exact RQ.ret1 rfl (Res.tmp rfl) fun w' hm => ⟨rfl, hm.fr⟩

set_option maxRecDepth 10000 in set_option maxHeartbeats 4000000 in
theorem lam_mark_calls (h : List Nat) (hs : h.length = 8) (hlt : ∀ x ∈ h, x < 256) (w : World) (hK : Laid w) :
    Gives Tryz.prog 134 [.agg (u8s h).toArray] (.agg (u8s (markH h)).toArray) w := by
  refine enter Tryz.func134 rfl (Mem.nil w []) rfl ?_
  (repeat refine RC.seq ?_); refine RC.region ?_
  refine Run.nw (New.boxA rfl rfl) ?_
  intro b1
  refine Run.nw (New.alloc tabOk rfl rfl) ?_
  intro b2
  refine Run.nil (RQ.next ?_)
  (repeat refine RC.seq ?_); refine RC.region ?_
  refine Run.a (Val.eq (Val.sliceA tabOk rfl rfl rfl rfl rfl) (show _ = Value.slice (some ⟨b1, 0, none⟩) h.length h.length from by rw [hs])) ?_
  refine Run.nw (New.buildSlice tabOk (parts := [(0, .tmp 3)]) (cells := [Value.slice (some ⟨b1, 0, none⟩) h.length h.length].toArray) rfl rfl rfl rfl rfl rfl (fillS_full 1 1 _ [Value.slice (some ⟨b1, 0, none⟩) h.length h.length] rfl (by simp [Value.cells]))) ?_
  intro b4
  refine Run.callV Tryz.func82 rfl rfl rfl rfl rfl rfl rfl (fun w' hm => Of_calls 112 (by decide) _ _ [h] w' (SrcW.row hm m0 rfl (Nat.le_refl 1)) (parts1' (u := .slice (some ⟨b1, 0, none⟩) h.length h.length) (SrcW.row hm m2 (by simp [u8s_len]) (Nat.le_refl _))) (by simp [tot, hs]) (by simpa using hlt) (hK.fr hm.fr (by simp))) ?_
  have hd := mark_len h
  rw [show digest 112 [h] = markH h from rfl]
  generalize markH h = dg at *
  refine Run.op1 (OpTo.setAll tabOk rfl rfl rfl rfl rfl p1 hd rfl) (fun _ => ?_)
  refine Run.nil (RQ.next ?_)
  refine RC.ret ?_; (repeat first | refine RQ.thenRet ?_ | refine RQ.blockRet ?_)
  exact RQ.ret1 rfl (Res.cellU tabOk rfl rfl rfl m0 hd) fun w' hm => ⟨rfl, hm.fr⟩

end Go.Proofs.YtkkfaffehbjdgaaGreatDoor

/- lamport: public, Public; the reference's Public. -/
namespace Go.Sha
theorem pc_pc (l : List Nat) (i b : Nat) (hb : b < 2) : pc 8 (pc 16 l i) b = pc 8 l (2 * i + b) := by
  unfold pc
  rw [List.drop_take, List.drop_drop, List.take_take]
  congr 1
  · omega
  · congr 1; omega
theorem row_pc2 (l : List Nat) (i : Nat) : rowOf (pc 8 l) (2 * i) ++ rowOf (pc 8 (pc 16 l i)) 2 = rowOf (pc 8 l) (2 * (i + 1)) := by
  have e : rowOf (pc 8 (pc 16 l i)) 2 = pc 8 l (2 * i) ++ pc 8 l (2 * i + 1) := by
    simp only [rowOf, List.nil_append, pc_pc l i 0 (by decide), pc_pc l i 1 (by decide), Nat.add_zero]
  rw [e, show 2 * (i + 1) = 2 * i + 1 + 1 by omega]
  simp only [rowOf, List.append_assoc]
end Go.Sha
namespace Go.Proofs.YtkkfaffehbjdgaaGreatDoor
open Go Go.Vc Go.Sha

set_option maxRecDepth 10000 in set_option maxHeartbeats 4000000 in
theorem public_calls (l : List Nat) (hl : l.length = 256) (hlt : ∀ x ∈ l, x < 256) (w : World) (hK : Laid w) :
    Gives Tryz.prog 135 [.agg (u8s l).toArray] (.agg (u8s (pubOf l)).toArray) w := by
  refine enter Tryz.func135 rfl (Mem.nil w []) rfl ?_
  have hpl := fun {i : Nat} (hi : i < 32) => pc_len (c := 8) (n := 32) hl hi
  (repeat refine RC.seq ?_); refine RC.region ?_
  refine Run.nw (New.boxA rfl rfl) ?_
  intro b1
  refine Run.nw (New.alloc tabOk rfl rfl) ?_
  intro b2
  refine Run.nil (RQ.next ?_)
  (repeat refine RC.seq ?_); refine RC.region ?_
  refine Run.a (Val.of rfl) ?_
  refine Run.nil (RQ.next ?_)
  (repeat refine RC.seq ?_); refine RC.region ?_
  refine Run.a (Val.loadU tabOk rfl rfl rfl rfl m1 hl) ?_
  refine Run.a (Val.of rfl) ?_
  refine Run.nil (RQ.next ?_)
  (repeat refine RC.seq ?_); refine RC.block ?_
  refine RC.up 16 (D := Value × Hp) (fun i x => Own 5 1 x.1 (16 * i) (u8s (rowOf (pc 8 l) (2 * i))) x.2)
    (fun i x => [(9, .int .i64 i), (8, .agg (u8s l).toArray), (3, x.1), (2, .pointer (some ⟨b2, 0, none⟩))])
    (fun i x => x.2 ++ [(b2, .cells ti32.zero.cells 32 (0, 0))])
    0 (_, _) (Nat.zero_le _) Own.nil ⟨rfl, rfl, rfl, rfl, trivial⟩ (List.Sublist.cons_cons _ (List.nil_sublist _)) ?_
  rintro i ⟨v3, bl3⟩ hi hown
  dsimp only at hown ⊢
  (repeat refine RC.seq ?_); refine RC.region ?_
  refine Run.a (Val.of rfl) ?_
  refine Run.nil (RQ.next ?_)
  (repeat refine RC.seq ?_); refine RC.wh rfl (fun h => RQ.next ?_) (fun h => ?_)
  · have hi' : i < 16 := by have := of_decide_eq_true h; omega
    clear h
    have hp16 := pc_len (c := 16) (n := 16) hl hi'
    have hrow := row_pc2 l i
    have hpp : ∀ b, b < 2 → (pc 8 (pc 16 l i) b).length = 8 := fun b hb => pc_len (c := 8) (n := 2) hp16 hb
    generalize hqe : pc 16 l i = q at *
    (repeat refine RC.seq ?_); refine RC.block ?_
    (repeat refine RC.seq ?_); refine RC.region ?_
    refine Run.a (Val.eq (Val.indexU tabOk i (c := 16) rfl rfl rfl rfl rfl rfl rfl rfl hi' rfl) (congrArg (fun l => Value.agg (u8s l).toArray) hqe)) ?_
    refine Run.nw (New.alloc tabOk rfl rfl) ?_
    intro b5
    refine Run.op1 (OpTo.setAll tabOk rfl rfl rfl rfl rfl (List.Perm.refl _) hp16 rfl) (fun _ => ?_)
    refine Run.nil (RQ.next ?_)
    (repeat refine RC.seq ?_); refine RC.region ?_
    refine Run.a (Val.loadU tabOk rfl rfl rfl rfl m0 hp16) ?_
    refine Run.a (Val.of rfl) ?_
    refine Run.nil (RQ.next ?_)
    (repeat refine RC.seq ?_); refine RC.block ?_
    refine RC.up 2 (D := Value × Hp) (fun b x => Own 5 1 x.1 (16 * i + 8 * b) (u8s (rowOf (pc 8 l) (2 * i) ++ rowOf (pc 8 q) b)) x.2)
      (fun b x => [(13, .int .i64 b), (12, .agg (u8s q).toArray), (9, .int .i64 i), (8, .agg (u8s l).toArray), (3, x.1), (2, .pointer (some ⟨b2, 0, none⟩))])
      (fun b x => x.2 ++ [(b2, .cells ti32.zero.cells 32 (0, 0))])
      0 (v3, bl3) (Nat.zero_le _) (by simpa [rowOf] using hown) ⟨rfl, rfl, rfl, rfl, rfl, rfl, trivial⟩ (List.Sublist.cons _ (List.Sublist.refl _)) ?_
    rintro b ⟨v4, bl4⟩ hb hown4
    dsimp only at hown4 ⊢
    (repeat refine RC.seq ?_); refine RC.region ?_
    refine Run.a (Val.of rfl) ?_
    refine Run.nil (RQ.next ?_)
    (repeat refine RC.seq ?_); refine RC.wh rfl (fun h => RQ.next ?_) (fun h => ?_)
    · have hb' : b < 2 := by have := of_decide_eq_true h; omega
      clear h
      have hq8 := hpp b hb'
      have e2 : rowOf (pc 8 l) (2 * i) ++ rowOf (pc 8 q) b ++ pc 8 q b = rowOf (pc 8 l) (2 * i) ++ rowOf (pc 8 q) (b + 1) := by rw [List.append_assoc]; rfl
      (repeat refine RC.seq ?_); refine RC.block ?_
      (repeat refine RC.seq ?_); refine RC.region ?_
      refine Run.a (Val.indexU tabOk b (c := 8) rfl rfl rfl rfl rfl rfl rfl rfl hb' rfl) ?_
      generalize pc 8 q b = q8 at *
      refine Run.nw (New.alloc tabOk rfl rfl) ?_
      intro b7
      refine Run.op1 (OpTo.setAll tabOk rfl rfl rfl rfl rfl (List.Perm.refl _) hq8 rfl) (fun _ => ?_)
      refine Run.nil (RQ.next ?_)
      refine RC.region ?_
      refine Run.a (Val.of rfl) ?_
      refine Run.a (Val.sliceA tabOk rfl rfl rfl rfl rfl) ?_
      refine Run.op rfl (OpTo.append tabOk hown4 (Src.at ⟨b7, 0, none⟩ 8 8 (u8s q8) (by rw [u8s_len, hq8]; rfl) (Rd.rowAll List.mem_cons_self)) rfl rfl rfl rfl rfl rfl rfl rfl rfl (List.perm_middle.symm) (u8s_one _) (by unfold maxLen; omega) (by simp only [ti5]; omega)) ?_
      rintro ⟨⟨v6, bl6⟩, hown6⟩
      refine Run.a (Val.of rfl) ?_
      refine Run.nil (RQ.blockNormal (RQ.next ?_))
      refine RC.region ?_
      repeat (first | refine Run.a Val.ra ?_ | refine Run.a (Val.of rfl) ?_)
      refine Run.nil (RQ.up (b + 1) (v6, bl6) (Nat.lt_succ_self _) hb' ?_ ⟨rfl, rfl, rfl, rfl, rfl, rfl, trivial⟩ (List.Sublist.append (List.Sublist.refl _) (List.Sublist.cons _ (List.Sublist.refl _))))
      have h := hown6
      rw [← u8s_app, e2] at h
      exact h
    · have hb' : b = 2 := by have := of_decide_eq_false h; omega
      subst hb'
      (repeat refine RQ.thenExit ?_); refine RQ.blockHere ?_
      refine RQ.blockNormal (RQ.next ?_)
      refine RC.region ?_
      repeat (first | refine Run.a Val.ra ?_ | refine Run.a (Val.of rfl) ?_)
      refine Run.nil (RQ.up (i + 1) (v4, bl4) (Nat.lt_succ_self _) hi' ?_ ⟨rfl, rfl, rfl, rfl, trivial⟩ (List.Sublist.refl _))
      have h := hown4
      rw [hrow] at h
      exact h
  · have hi' : i = 16 := by have := of_decide_eq_false h; omega
    subst hi'
    have e : rowOf (pc 8 l) 32 = l := rowOf_pc hl
    rw [show 2 * 16 = 32 from rfl, e] at hown
    clear e
    (repeat refine RQ.thenExit ?_); refine RQ.blockHere ?_
    refine RQ.next ?_
    obtain ⟨a, c, rfl, hc⟩ := hown.shape
    (repeat refine RC.seq ?_); refine RC.region ?_
    refine Run.a (Val.of rfl) ?_
    refine Run.nw (New.buildSlice tabOk (parts := [(0, .tmp 21)]) (cells := [Value.slice a (16 * 16) c].toArray) rfl rfl rfl rfl rfl rfl (fillS_full 1 1 _ [Value.slice a (16 * 16) c] rfl (by simp [Value.cells]))) ?_
    intro b22
    refine Run.callV Tryz.func82 rfl rfl rfl rfl rfl rfl rfl (fun w' hm => Of_calls 107 (by decide) _ _ [l] w' (SrcW.row hm m0 rfl (Nat.le_refl 1)) (parts1' (u := .slice a (16 * 16) c) (by rw [hl]; exact hown.srcW (fun q hq => hm.has q (List.mem_cons_of_mem _ (List.mem_append_left _ hq))))) (by simp [tot, hl]) (by simpa using hlt) (hK.fr hm.fr (by simp))) ?_
    rw [show digest 107 [l] = pubOf l from rfl]
    have hd : (pubOf l).length = 8 := digest_len _ _
    generalize pubOf l = dg at *
    refine Run.op1 (OpTo.setAll (L' := _ :: bl3) tabOk rfl rfl rfl rfl rfl (List.perm_append_comm (l₁ := _ :: bl3) (l₂ := [_])) hd rfl) (fun _ => ?_)
    refine Run.nil (RQ.next ?_)
    refine RC.ret ?_; (repeat first | refine RQ.thenRet ?_ | refine RQ.blockRet ?_)
    exact RQ.ret1 rfl (Res.cellU tabOk rfl rfl rfl m0 hd) fun w' hm => ⟨rfl, hm.fr⟩
end Go.Proofs.YtkkfaffehbjdgaaGreatDoor

/- lamport: a key's Public; Public; the reference's Public. -/
namespace Go.Sha
theorem zeros16 (k : Nat) : List.replicate (16 + k) 0 = List.replicate 8 0 ++ (List.replicate 8 0 ++ List.replicate k (0 : Nat)) := by
  rw [List.replicate_append_replicate, List.replicate_append_replicate]
  congr 1
  omega
/-- Two pieces of 8, written in the order of a bit. -/
theorem turn_wr (m op sh ro rest : List Nat) (i : Nat) (hro : ro.length = i * 16) :
    ∃ p1 q1 p2 q2 : List Nat, ro ++ (List.replicate 8 0 ++ (List.replicate 8 0 ++ rest)) = p1 ++ List.replicate 8 0 ++ q1 ∧ i * 16 + bitOf m i * 8 = p1.length ∧ p1 ++ markH (pc 8 op i) ++ q1 = p2 ++ List.replicate 8 0 ++ q2 ∧ i * 16 + (1 - bitOf m i) * 8 = p2.length ∧
      p2 ++ pc 8 sh i ++ q2 = ro ++ turnd m op sh i ++ rest := by
  have hb := bitOf_lt m i
  have hm := mark_len (pc 8 op i)
  by_cases h : bitOf m i = 1
  · refine ⟨ro ++ List.replicate 8 0, rest, ro, markH (pc 8 op i) ++ rest, ?_, ?_, ?_, ?_, ?_⟩
    · simp only [List.append_assoc]
    · rw [h, List.length_append, hro]; simp
    · simp only [List.append_assoc]
    · rw [h, hro]; simp
    · unfold turnd; rw [if_pos h]; simp only [List.append_assoc]
  · have h0 : bitOf m i = 0 := by omega
    refine ⟨ro, List.replicate 8 0 ++ rest, ro ++ markH (pc 8 op i), rest, ?_, ?_, ?_, ?_, ?_⟩
    · simp only [List.append_assoc]
    · rw [h0, hro]; simp
    · simp only [List.append_assoc]
    · rw [h0, List.length_append, hro, hm]
    · unfold turnd; rw [if_neg h]; simp only [List.append_assoc]
theorem turnd_len (m op sh : List Nat) (i : Nat) (ho : (pc 8 sh i).length = 8) : (turnd m op sh i).length = 16 := by
  unfold turnd
  split <;> simp [mark_len, ho]
end Go.Sha
namespace Go.Proofs.YtkkfaffehbjdgaaGreatDoor
open Go Go.Vc Go.Sha

set_option maxRecDepth 10000 in set_option maxHeartbeats 4000000 in
theorem lam_Public_calls (m op sh : List Nat) (hm8 : m.length = 8) (hmlt : ∀ x ∈ m, x < 256) (hop : op.length = 128) (hoplt : ∀ x ∈ op, x < 256) (hsh : sh.length = 128) (hshlt : ∀ x ∈ sh, x < 256) (w : World) (hK : Laid w) :
    Gives Tryz.prog 118 [.agg (u8s m).toArray, .agg (u8s op).toArray, .agg (u8s sh).toArray] (.agg (u8s (pubBy m op sh)).toArray) w := by
  refine enter Tryz.func118 rfl (Mem.nil w []) rfl ?_
  have hq1 := fun {i : Nat} (hi : i < 16) => pc_len (c := 8) (n := 16) hop hi
  have hq2 := fun {i : Nat} (hi : i < 16) => pc_len (c := 8) (n := 16) hsh hi
  (repeat refine RC.seq ?_); refine RC.region ?_
  refine Run.nw (New.boxA rfl rfl) ?_
  intro b3
  refine Run.nw (New.boxA rfl rfl) ?_
  intro b4
  refine Run.nw (New.boxA rfl rfl) ?_
  intro b5
  refine Run.nw (New.alloc tabOk rfl rfl) ?_
  intro b6
  refine Run.nil (RQ.next ?_)
  (repeat refine RC.seq ?_); refine RC.region ?_
  refine Run.nw (New.allocTo tabOk (cs := (u8s (rowOf (turnd m op sh) 0 ++ List.replicate ((16 - 0) * 16) 0)).toArray) rfl rfl (by kernel_rfl)) ?_
  intro b7
  refine Run.nil (RQ.next ?_)
  (repeat refine RC.seq ?_); refine RC.region ?_
  refine Run.a (Val.loadU tabOk rfl rfl rfl rfl m3 hop) ?_
  refine Run.a (Val.of rfl) ?_
  refine Run.nil (RQ.next ?_)
  (repeat refine RC.seq ?_); refine RC.block ?_
  refine RC.up 16 (D := Unit) (fun i _ => (rowOf (turnd m op sh) i).length = i * 16)
    (fun i _ => [(12, .int .i64 i), (11, .agg (u8s op).toArray), (3, .pointer (some ⟨b3, 0, none⟩)), (5, .pointer (some ⟨b5, 0, none⟩)), (6, .pointer (some ⟨b6, 0, none⟩)), (7, .pointer (some ⟨b7, 0, none⟩))])
    (fun i _ => [(b7, .cells (u8s (rowOf (turnd m op sh) i ++ List.replicate ((16 - i) * 16) 0)).toArray 195 (0, 0)), (b6, .cells ti32.zero.cells 32 (0, 0)), (b5, .cells (u8s sh).toArray 88 (0, 0)), (b3, .cells (u8s m).toArray 32 (0, 0))])
    0 () (Nat.zero_le _) rfl ⟨rfl, rfl, rfl, rfl, rfl, rfl, trivial⟩ (List.Sublist.cons_cons _ (List.Sublist.cons_cons _ (List.Sublist.cons_cons _ (List.Sublist.cons _ (List.Sublist.refl _))))) ?_
  intro i _ hi hro
  (repeat refine RC.seq ?_); refine RC.region ?_
  refine Run.a (Val.of rfl) ?_
  refine Run.nil (RQ.next ?_)
  (repeat refine RC.seq ?_); refine RC.wh rfl (fun h => RQ.next ?_) (fun h => ?_)
  · have hi' : i < 16 := by have := of_decide_eq_true h; omega
    clear h
    have hb := bitOf_lt m i
    have q1 := hq1 hi'
    have q2 := hq2 hi'
    have q3 := pc_lt (c := 8) hoplt i
    have o1 := mark_len (pc 8 op i)
    have e1 : rowOf (turnd m op sh) (i + 1) = rowOf (turnd m op sh) i ++ turnd m op sh i := rfl
    have l2 : (rowOf (turnd m op sh) (i + 1)).length = (i + 1) * 16 := by rw [e1, List.length_append, hro, turnd_len m op sh i q2, Nat.succ_mul]
    obtain ⟨P1, Q1, P2, Q2, w1, w2, w3, w4, w5⟩ := turn_wr m op sh (rowOf (turnd m op sh) i) (List.replicate ((16 - (i + 1)) * 16) 0) i hro
    have z1 : List.replicate ((16 - i) * 16) 0 = List.replicate 8 0 ++ (List.replicate 8 0 ++ List.replicate ((16 - (i + 1)) * 16) 0) := by
      rw [← zeros16]; congr 1; omega
    rw [← e1] at w5
    (repeat refine RC.seq ?_); refine RC.block ?_
    rw [z1]
    clear z1 e1 hro
    generalize rowOf (turnd m op sh) i = ro at *
    generalize hpe : pc 8 op i = po at *
    generalize hse : pc 8 sh i = ps at *
    (repeat refine RC.seq ?_); refine RC.region ?_
    refine Run.a (Val.of rfl) ?_
    refine Run.a (Val.eq (Val.indexU tabOk i (c := 8) rfl rfl rfl rfl rfl rfl rfl rfl hi' rfl) (congrArg (fun l => Value.agg (u8s l).toArray) hpe)) ?_
    refine Run.nw (New.alloc tabOk rfl rfl) ?_
    intro b9
    refine Run.a (Val.of rfl) ?_
    refine Run.op1 (OpTo.setAll tabOk rfl rfl rfl rfl rfl (List.Perm.refl _) q1 rfl) (fun _ => ?_)
    refine Run.nil (RQ.next ?_)
    (repeat refine RC.seq ?_); refine RC.region ?_
    refine Run.a (Val.loadU tabOk rfl rfl rfl rfl m4 hm8) ?_
    refine Run.a (Val.of rfl) ?_
    refine Run.callV Tryz.func133 rfl rfl rfl rfl rfl rfl rfl (fun w' _ => lam_bit_calls m hm8 hmlt i (by omega) w') ?_
    refine Run.a (Val.of rfl) ?_
    refine Run.nil (RQ.next ?_)
    (repeat refine RC.seq ?_); refine RC.draw ([(b9, .cells (u8s po).toArray 32 (0, 0)), (b5, .cells (u8s sh).toArray 88 (0, 0))]) mixed (N := 16) rfl ?_
    refine DR.t 0 rfl (Val.of rfl) ?_
    refine DR.t 1 rfl (Val.of rfl) ?_
    refine DR.t 2 rfl (Val.of rfl) ?_
    refine DR.t 3 rfl (Val.of rfl) ?_
    refine DR.t 4 rfl (Val.eq (Val.ar rfl rfl rfl rfl (by dsimp only [inK]; omega)) (show _ = Value.int .i64 ((1 - bitOf m i : Nat) : Int) from by congr 1; omega)) ?_
    refine DR.t 5 rfl (Val.loadU tabOk rfl rfl rfl rfl m0 q1) ?_
    refine DR.t 7 rfl (Val.of rfl) ?_
    refine DR.t 8 rfl (Val.ix tabOk i (off' := i * 8) rfl rfl rfl rfl rfl rfl rfl hi' (by simp [ti32])) ?_
    refine DR.t 9 rfl (Val.eq (Val.loadPc tabOk i (c := 8) rfl rfl rfl rfl m1 rfl rfl (by rw [hse]; exact q2)) (congrArg (fun l => Value.agg (u8s l).toArray) hse)) ?_
    refine DR.t 10 rfl (Val.ix tabOk i (off' := i * 16) rfl rfl rfl rfl rfl rfl rfl hi' (by simp [ti194])) ?_
    refine DR.t 13 rfl (Val.ix tabOk i (off' := i * 16) rfl rfl rfl rfl rfl rfl rfl hi' (by simp [ti194])) ?_
    refine DR.c 6 ?_
    refine DOp.op1 rfl (OpTo.callV Tryz.func134 rfl rfl rfl rfl rfl rfl (fun w' hm => lam_mark_calls _ q1 q3 w' (hK.fr hm.fr (by simp)))) (fun _ => ?_)
    refine DR.t 11 rfl (Val.ix tabOk (bitOf m i) (off' := i * 16 + bitOf m i * 8) rfl rfl rfl rfl rfl rfl rfl hb (by simp [ti32])) ?_
    refine DR.c 12 ?_
    refine DOp.op1 rfl (OpTo.setU tabOk P1 (List.replicate 8 0) (markH po) Q1 rfl rfl rfl rfl rfl p1 w1 w2 (by rw [o1]; rfl) o1) (fun _ => ?_)
    refine DR.t 14 rfl (Val.ix tabOk (1 - bitOf m i) (off' := i * 16 + (1 - bitOf m i) * 8) rfl rfl rfl rfl rfl rfl rfl (by omega) (by simp [ti32])) ?_
    refine DR.c 15 ?_
    refine DOp.op1 rfl (OpTo.setU tabOk P2 (List.replicate 8 0) ps Q2 rfl rfl rfl rfl rfl (List.Perm.refl _) w3 w4 (by rw [q2]; rfl) q2) (fun _ => ?_)
    rw [w5]
    refine DR.done (by kernel_rfl) (RQ.blockNormal (RQ.next ?_))
    refine RC.region ?_
    repeat (first | refine Run.a Val.ra ?_ | refine Run.a (Val.of rfl) ?_)
    exact Run.nil (RQ.up (i + 1) () (Nat.lt_succ_self _) hi' l2 ⟨rfl, rfl, rfl, rfl, rfl, rfl, trivial⟩ (List.Sublist.cons_cons _ (List.Sublist.cons _ (List.Sublist.refl _))))
  · have hi' : i = 16 := by have := of_decide_eq_false h; omega
    subst hi'
    have l2 := rowOf_lt (fun i => turnd_lt (m := m) (op := op) hshlt i) 16
    have hd : (pubBy m op sh).length = 8 := digest_len _ _
    have e : pubBy m op sh = pubOf (rowOf (turnd m op sh) 16) := rfl
    rw [show (16 - 16) * 16 = 0 from rfl, List.replicate_zero, List.append_nil]
    generalize rowOf (turnd m op sh) 16 = ro at *
    (repeat refine RQ.thenExit ?_); refine RQ.blockHere ?_
    refine RQ.next ?_
    (repeat refine RC.seq ?_); refine RC.region ?_
    refine Run.a (Val.loadU tabOk rfl rfl rfl rfl m0 hro) ?_
    refine Run.callV Tryz.func135 rfl rfl rfl rfl rfl rfl rfl (fun w' hm => public_calls _ hro l2 w' (hK.fr hm.fr (by simp))) ?_
    rw [← e]
    refine Run.op1 (OpTo.setAll tabOk rfl rfl rfl rfl rfl p1 hd rfl) (fun _ => ?_)
    refine Run.nil (RQ.next ?_)
    refine RC.ret ?_; (repeat first | refine RQ.thenRet ?_ | refine RQ.blockRet ?_)
    exact RQ.ret1 rfl (Res.cellU tabOk rfl rfl rfl m0 hd) fun w' hm => ⟨rfl, hm.fr⟩
end Go.Proofs.YtkkfaffehbjdgaaGreatDoor
end
