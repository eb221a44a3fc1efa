/- lamport: public, Public; the reference's Public. -/
import Derived.Test.YtilfbomjaflbjaaDoorLam1
namespace Go.Sha
theorem pc_pc (l : List Nat) (i b : Nat) (hb : b < 2) : pc 8 (pc 16 l i) b = pc 8 l (2 * i + b) := by
  unfold pc
  rw [List.drop_take, List.drop_drop, List.take_take]
  congr 1
  · omega
  · congr 1; omega
theorem row_pc2 (l : List Nat) (i : Nat) : rowOf (pc 8 l) (2 * i) ++ rowOf (pc 8 (pc 16 l i)) 2 = rowOf (pc 8 l) (2 * (i + 1)) := by
  have e : rowOf (pc 8 (pc 16 l i)) 2 = pc 8 l (2 * i) ++ pc 8 l (2 * i + 1) := by
    simp only [rowOf, List.nil_append, pc_pc l i 0 (by decide), pc_pc l i 1 (by decide), Nat.add_zero]
  rw [e, show 2 * (i + 1) = 2 * i + 1 + 1 by omega]
  simp only [rowOf, List.append_assoc]
end Go.Sha
namespace Go.Proofs.YtilfbomjaflbjaaDoor
open Go Go.Vc Go.Sha

set_option maxRecDepth 10000 in
theorem public_calls (l : List Nat) (hl : l.length = 256) (hlt : ∀ x ∈ l, x < 256) (w : World) (hK : Laid w) :
    Gives Tryd.prog 55 [.agg (u8s l).toArray] (.agg (u8s (pubOf l)).toArray) w := by
  refine enter Tryd.func55 rfl (Mem.nil w []) rfl ?_
  have hpl := fun {i : Nat} (hi : i < 32) => pc_len (c := 8) (n := 32) hl hi
  (repeat refine RC.seq ?_); refine RC.region ?_
  refine Run.mk rfl rfl rfl (New.boxA rfl rfl) ?_
  intro b1
  refine Run.mk rfl rfl rfl (New.alloc tabOk rfl rfl) ?_
  intro b2
  refine Run.nil (RQ.next ?_)
  (repeat refine RC.seq ?_); refine RC.region ?_
  refine Run.v rfl rfl rfl (Val.of rfl) ?_
  refine Run.nil (RQ.next ?_)
  (repeat refine RC.seq ?_); refine RC.region ?_
  refine Run.v rfl rfl rfl (Val.loadU tabOk rfl rfl rfl rfl m1 hl) ?_
  refine Run.v rfl rfl rfl (Val.of rfl) ?_
  refine Run.nil (RQ.next ?_)
  (repeat refine RC.seq ?_); refine RC.block ?_
  refine RC.up 16 (D := Value × Hp) (fun i x => Own 5 1 x.1 (16 * i) (u8s (rowOf (pc 8 l) (2 * i))) x.2)
    (fun i x => [(9, .int .i64 i), (8, .agg (u8s l).toArray), (3, x.1), (2, .pointer (some ⟨b2, 0, none⟩))])
    (fun i x => x.2 ++ [(b2, .cells ti23.zero.cells 23 (0, 0))])
    0 (_, _) (Nat.zero_le _) Own.nil ⟨rfl, rfl, rfl, rfl, trivial⟩ (List.Sublist.cons_cons _ (List.nil_sublist _)) ?_
  rintro i ⟨v3, bl3⟩ hi hown
  dsimp only at hown ⊢
  (repeat refine RC.seq ?_); refine RC.region ?_
  refine Run.v rfl rfl rfl (Val.of rfl) ?_
  refine Run.nil (RQ.next ?_)
  (repeat refine RC.seq ?_); refine RC.wh rfl (fun h => RQ.next ?_) (fun h => ?_)
  · have hi' : i < 16 := by have := of_decide_eq_true h; omega
    clear h
    have hp16 := pc_len (c := 16) (n := 16) hl hi'
    have hrow := row_pc2 l i
    have hpp : ∀ b, b < 2 → (pc 8 (pc 16 l i) b).length = 8 := fun b hb => pc_len (c := 8) (n := 2) hp16 hb
    generalize hqe : pc 16 l i = q at *
    (repeat refine RC.seq ?_); refine RC.block ?_
    (repeat refine RC.seq ?_); refine RC.region ?_
    refine Run.v rfl rfl rfl (Val.eq (Val.indexU tabOk i (c := 16) rfl rfl rfl rfl rfl rfl rfl rfl hi' rfl) (congrArg (fun l => Value.agg (u8s l).toArray) hqe)) ?_
    refine Run.mk rfl rfl rfl (New.alloc tabOk rfl rfl) ?_
    intro b5
    refine Run.op rfl (OpTo.setAll tabOk rfl rfl rfl rfl rfl (List.Perm.refl _) hp16 rfl) (fun _ => ?_)
    refine Run.nil (RQ.next ?_)
    (repeat refine RC.seq ?_); refine RC.region ?_
    refine Run.v rfl rfl rfl (Val.loadU tabOk rfl rfl rfl rfl m0 hp16) ?_
    refine Run.v rfl rfl rfl (Val.of rfl) ?_
    refine Run.nil (RQ.next ?_)
    (repeat refine RC.seq ?_); refine RC.block ?_
    refine RC.up 2 (D := Value × Hp) (fun b x => Own 5 1 x.1 (16 * i + 8 * b) (u8s (rowOf (pc 8 l) (2 * i) ++ rowOf (pc 8 q) b)) x.2)
      (fun b x => [(13, .int .i64 b), (12, .agg (u8s q).toArray), (9, .int .i64 i), (8, .agg (u8s l).toArray), (3, x.1), (2, .pointer (some ⟨b2, 0, none⟩))])
      (fun b x => x.2 ++ [(b2, .cells ti23.zero.cells 23 (0, 0))])
      0 (v3, bl3) (Nat.zero_le _) (by simpa [rowOf] using hown) ⟨rfl, rfl, rfl, rfl, rfl, rfl, trivial⟩ (List.Sublist.cons _ (List.Sublist.refl _)) ?_
    rintro b ⟨v4, bl4⟩ hb hown4
    dsimp only at hown4 ⊢
    (repeat refine RC.seq ?_); refine RC.region ?_
    refine Run.v rfl rfl rfl (Val.of rfl) ?_
    refine Run.nil (RQ.next ?_)
    (repeat refine RC.seq ?_); refine RC.wh rfl (fun h => RQ.next ?_) (fun h => ?_)
    · have hb' : b < 2 := by have := of_decide_eq_true h; omega
      clear h
      have hq8 := hpp b hb'
      have e2 : rowOf (pc 8 l) (2 * i) ++ rowOf (pc 8 q) b ++ pc 8 q b = rowOf (pc 8 l) (2 * i) ++ rowOf (pc 8 q) (b + 1) := by rw [List.append_assoc]; rfl
      (repeat refine RC.seq ?_); refine RC.block ?_
      (repeat refine RC.seq ?_); refine RC.region ?_
      refine Run.v rfl rfl rfl (Val.indexU tabOk b (c := 8) rfl rfl rfl rfl rfl rfl rfl rfl hb' rfl) ?_
      generalize pc 8 q b = q8 at *
      refine Run.mk rfl rfl rfl (New.alloc tabOk rfl rfl) ?_
      intro b7
      refine Run.op rfl (OpTo.setAll tabOk rfl rfl rfl rfl rfl (List.Perm.refl _) hq8 rfl) (fun _ => ?_)
      refine Run.nil (RQ.next ?_)
      refine RC.region ?_
      refine Run.v rfl rfl rfl (Val.of rfl) ?_
      refine Run.v rfl rfl rfl (Val.sliceA tabOk rfl rfl rfl rfl rfl) ?_
      refine Run.op rfl (OpTo.append tabOk hown4 (Src.at ⟨b7, 0, none⟩ 8 8 (u8s q8) (by rw [u8s_len, hq8]; rfl) (Rd.rowAll List.mem_cons_self)) rfl rfl rfl rfl rfl rfl rfl rfl rfl (List.perm_middle.symm) (u8s_one _) (by unfold maxLen; omega) (by simp only [ti5]; omega)) ?_
      rintro ⟨⟨v6, bl6⟩, hown6⟩
      refine Run.v rfl rfl rfl (Val.of rfl) ?_
      refine Run.nil (RQ.blockNormal (RQ.next ?_))
      refine RC.region ?_
      repeat (first | refine Run.v rfl rfl rfl (Val.ar rfl rfl rfl rfl (by dsimp only [inK]; omega)) ?_ | refine Run.v rfl rfl rfl (Val.of rfl) ?_)
      refine Run.nil (RQ.up (b + 1) (v6, bl6) (Nat.lt_succ_self _) hb' ?_ ⟨rfl, rfl, rfl, rfl, rfl, rfl, trivial⟩ (List.Sublist.append (List.Sublist.refl _) (List.Sublist.cons _ (List.Sublist.refl _))))
      have h := hown6
      rw [← u8s_app, e2] at h
      exact h
    · have hb' : b = 2 := by have := of_decide_eq_false h; omega
      subst hb'
      (repeat refine RQ.thenExit ?_); refine RQ.blockHere ?_
      refine RQ.blockNormal (RQ.next ?_)
      refine RC.region ?_
      repeat (first | refine Run.v rfl rfl rfl (Val.ar rfl rfl rfl rfl (by dsimp only [inK]; omega)) ?_ | refine Run.v rfl rfl rfl (Val.of rfl) ?_)
      refine Run.nil (RQ.up (i + 1) (v4, bl4) (Nat.lt_succ_self _) hi' ?_ ⟨rfl, rfl, rfl, rfl, trivial⟩ (List.Sublist.refl _))
      have h := hown4
      rw [hrow] at h
      exact h
  · have hi' : i = 16 := by have := of_decide_eq_false h; omega
    subst hi'
    have e : rowOf (pc 8 l) 32 = l := rowOf_pc hl
    rw [show 2 * 16 = 32 from rfl, e] at hown
    clear e
    (repeat refine RQ.thenExit ?_); refine RQ.blockHere ?_
    refine RQ.next ?_
    obtain ⟨a, c, rfl, hc⟩ := hown.shape
    (repeat refine RC.seq ?_); refine RC.region ?_
    refine Run.v rfl rfl rfl (Val.of rfl) ?_
    refine Run.mk rfl rfl rfl (New.buildSlice tabOk (parts := [(0, .tmp 21)]) (cells := [Value.slice a (16 * 16) c].toArray) rfl rfl rfl rfl rfl rfl (fillS_full 1 1 _ [Value.slice a (16 * 16) c] rfl (by simp [Value.cells]))) ?_
    intro b22
    refine Run.callV Tryd.func53 rfl rfl rfl rfl rfl rfl rfl (fun w' hm => Of_calls 107 (by decide) _ _ [l] w' (SrcW.row hm m0 rfl (Nat.le_refl 1)) (parts1' (u := .slice a (16 * 16) c) (by rw [hl]; exact hown.srcW (fun q hq => hm.has q (List.mem_cons_of_mem _ (List.mem_append_left _ hq))))) (by simp [tot, hl]) (by simpa using hlt) (hK.fr hm.fr (by simp))) ?_
    rw [show digest 107 [l] = pubOf l from rfl]
    have hd : (pubOf l).length = 8 := digest_len _ _
    generalize pubOf l = dg at *
    refine Run.op rfl (OpTo.setAll (L' := _ :: bl3) tabOk rfl rfl rfl rfl rfl (List.perm_append_comm (l₁ := _ :: bl3) (l₂ := [_])) hd rfl) (fun _ => ?_)
    refine Run.nil (RQ.next ?_)
    refine RC.ret ?_; (repeat first | refine RQ.thenRet ?_ | refine RQ.blockRet ?_)
    exact RQ.ret1 rfl (Res.cellU tabOk rfl rfl rfl m0 hd) fun w' hm => ⟨rfl, hm.fr⟩
end Go.Proofs.YtilfbomjaflbjaaDoor
