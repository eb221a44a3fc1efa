/- Lemmas. -/
import Derived.Test.YtkkfaffehbjdgaaGreatDoorPk10
set_option linter.unusedSimpArgs false
set_option linter.unusedVariables false
section
/- The reference's cut, Root, Prove. -/
namespace Go.Vc
open Go
section
variable {P : Program} {n : Nat} {w0 : World} {S0 : List Nat} {E : Env} {L : Hp} {o : Oper} {T : List (Nat × TI)} {t : Nat} {ti : TI}
/-- p[:] of an array somewhere. -/
theorem Val.sliceAd (hT : TabOk P T) {x : Operand} {ad : Addr} {len el : Nat} {ei : TI} (ho : o.op = .slice t x none none none) (ht : tiGet T t = some ti) (hd : ti.desc = .array len el) (he : tiGet T el = some ei)
    (hx : lk E x = some (.pointer (some ad))) : Val P n w0 S0 E L o (.slice (some ad) len len) := by
  intro a w hs _
  have h2 := (hT _ _ ht).1
  rw [hd] at h2
  by_cases hl : len = 0 <;> simp [execOp, ho, hs.eval hx, Instr.sliceAt, run_underlying h2, Instr.sureAddr, Instr.sliceBounds, (hT _ _ he).size, hl, Addr.add]
end
end Go.Vc
namespace Go.Proofs.YtkkfaffehbjdgaaGreatDoor
open Go Go.Vc Go.Sha

set_option maxRecDepth 10000 in set_option maxHeartbeats 4000000 in
theorem ref_cut_calls (n : Nat) (h2 : 2 ≤ n) (hn : n ≤ 65536) (w : World) : Gives Tryz.prog 94 [.int .i64 n] (.int .i64 (cut n : Nat)) w := by
  refine enter Tryz.func94 rfl (Mem.nil w []) rfl ?_
  (repeat refine RC.seq ?_); refine RC.region ?_
  refine Run.a (Val.of rfl) ?_
  refine Run.nil (RQ.next ?_)
  (repeat refine RC.seq ?_); refine RC.region ?_
  refine Run.a (Val.of rfl) ?_
  refine Run.nil (RQ.next ?_)
  (repeat refine RC.seq ?_); refine RC.block ?_
  refine RC.up 17 (D := Unit) (fun j _ => 2 ^ j < n) (fun j _ => [(3, .int .i64 (2 ^ j : Nat)), (0, .int .i64 n)]) (fun _ _ => []) 0 () (Nat.zero_le _) (by show 1 < n; omega) ⟨rfl, rfl, trivial⟩ (List.Sublist.refl _) ?_
  intro j _ hj hlt
  have hp : 2 ^ (j + 1) = 2 * 2 ^ j := by rw [Nat.pow_succ, Nat.mul_comm]
  have hj16 : j < 17 := by
    rcases Nat.lt_or_ge j 17 with h | h
    · exact h
    · have : 2 ^ 17 ≤ 2 ^ j := Nat.pow_le_pow_right (by decide) h
      have e : (2 : Nat) ^ 17 = 131072 := rfl
      omega
  have hce := cut_eq (n := n) (j := j) hlt
  generalize hq : 2 ^ j = q at *
  (repeat refine RC.seq ?_); refine RC.region ?_
  refine Run.a (Val.of rfl) ?_
  refine Run.a (Val.eq (Val.ar rfl rfl rfl rfl (by dsimp only [inK]; omega)) (show _ = Value.int .i64 ((2 * q : Nat) : Int) from by congr 1)) ?_
  refine Run.a (Val.of rfl) ?_
  refine Run.a (Val.eq (Val.of rfl) (show _ = Value.bool (decide (2 * q < n)) from congrArg Value.bool (by rw [decide_eq_decide]; omega))) ?_
  refine Run.nil (RQ.next ?_)
  (repeat refine RC.seq ?_); refine RC.wh rfl (fun h => RQ.next ?_) (fun h => ?_)
  · have h1 := of_decide_eq_true h
    (repeat refine RC.seq ?_); refine RC.block ?_
    refine RC.region ?_
    refine Run.a (Val.of rfl) ?_
    refine Run.a (Val.eq (Val.ar rfl rfl rfl rfl (by dsimp only [inK]; omega)) (show _ = Value.int .i64 ((2 ^ (j + 1) : Nat) : Int) from by rw [hp]; congr 1)) ?_
    refine Run.a (Val.of rfl) ?_
    exact Run.nil (RQ.blockNormal (RQ.up (j + 1) () (Nat.lt_succ_self _) hj16 (by rw [hp]; exact h1) ⟨rfl, rfl, trivial⟩ (List.Sublist.refl _)))
  · have h1 := of_decide_eq_false h
    have hce := hce (by omega)
    (repeat refine RQ.thenExit ?_); refine RQ.blockHere ?_
    refine RQ.next ?_
    (repeat refine RC.seq ?_); refine RC.region ?_
    refine Run.a (Val.of rfl) ?_
    refine Run.a (Val.of rfl) ?_
    refine Run.nil (RQ.next ?_)
    rw [hce]
    refine RC.ret ?_; (repeat first | refine RQ.thenRet ?_ | refine RQ.blockRet ?_); exact RQ.ret1 rfl (Res.tmp rfl) fun w' hm => ⟨rfl, hm.fr⟩

set_option maxRecDepth 10000 in set_option maxHeartbeats 4000000 in
theorem ref_Root_calls : ∀ (n : Nat) (l : List (List Nat)), l.length = n → HL l → ∀ (v : Value) (w : World), SrcW w 8 v l.length (u8s l.flatten) →
    Gives Tryz.prog 67 [v] (.agg (u8s (rootOf l)).toArray) w := by
  intro n
  induction n using Nat.strongRecOn with
  | _ n ih =>
  intro l hl hH v w hs
  have hrl := rootOf_len l
  by_cases h0 : l.length = 0
  · obtain ⟨a, c, rfl, hc⟩ := hs.shape
    have hz : rootOf l = List.replicate 8 0 := by rw [List.eq_nil_of_length_eq_zero h0]; unfold rootOf; rw [if_pos (by decide), mroot_nil]; rfl
    rw [hz]
    refine enter Tryz.func67 rfl (Mem.nil w []) rfl ?_
    (repeat refine RC.seq ?_); refine RC.region ?_
    refine Run.nw (New.alloc tabOk rfl rfl) ?_
    intro b2
    refine Run.nil (RQ.next ?_)
    (repeat refine RC.seq ?_); refine RC.block ?_
    (repeat refine RC.seq ?_); refine RC.region ?_
    refine Run.a (Val.of rfl) ?_
    refine Run.a (Val.len (len := l.length) tabOk rfl rfl rfl rfl) ?_
    refine Run.a (Val.eq (Val.of rfl) (show _ = Value.bool true from congrArg Value.bool (by rw [beq_iff_eq]; omega))) ?_
    refine Run.a (Val.of rfl) ?_
    refine Run.sk ?_
    refine Run.sk ?_
    refine Run.sk ?_
    refine Run.a (Val.of rfl) ?_
    refine Run.a (Val.of rfl) ?_
    refine Run.nil (RQ.next ?_)
    (repeat refine RC.seq ?_); refine RC.condT rfl rfl ?_
    (repeat refine RC.seq ?_); refine RC.region ?_
    refine Run.a (Val.buildA tabOk (parts := []) (cells := (u8s (List.replicate 8 0)).toArray) rfl rfl rfl rfl rfl rfl) ?_
    refine Run.op1 (OpTo.setAll tabOk rfl rfl rfl rfl rfl (List.Perm.refl _) rfl rfl) (fun _ => ?_)
    refine Run.nil (RQ.next ?_)
    refine RC.ret ?_; (repeat first | refine RQ.thenRet ?_ | refine RQ.blockRet ?_)
    exact RQ.ret1 rfl (Res.cellU tabOk rfl rfl rfl m0 rfl) fun w' hm => ⟨rfl, hm.fr⟩
  · obtain ⟨ad, c, rfl, hc, hcl, hr⟩ := hs.pos (by omega)
    refine enter Tryz.func67 rfl (Mem.nil w []) rfl ?_
    (repeat refine RC.seq ?_); refine RC.region ?_
    refine Run.nw (New.alloc tabOk rfl rfl) ?_
    intro b2
    refine Run.nil (RQ.next ?_)
    (repeat refine RC.seq ?_); refine RC.block ?_
    (repeat refine RC.seq ?_); refine RC.region ?_
    refine Run.a (Val.of rfl) ?_
    refine Run.a (Val.len (len := l.length) tabOk rfl rfl rfl rfl) ?_
    refine Run.a (Val.eq (Val.of rfl) (show _ = Value.bool false from congrArg Value.bool (by rw [beq_eq_false_iff_ne]; omega))) ?_
    refine Run.a (Val.of rfl) ?_
    refine Run.a (Val.of rfl) ?_
    refine Run.a (Val.len (len := l.length) tabOk rfl rfl rfl rfl) ?_
    refine Run.a (Val.eq (Val.of rfl) (show _ = Value.bool (decide (65536 < l.length)) from congrArg Value.bool (by rw [decide_eq_decide]; omega))) ?_
    refine Run.a (Val.of rfl) ?_
    refine Run.a (Val.of rfl) ?_
    refine Run.nil (RQ.next ?_)
    (repeat refine RC.seq ?_); refine RC.cond rfl (fun h => ?_) (fun h => ?_)
    · have h1 := of_decide_eq_true h
      have hz : rootOf l = List.replicate 8 0 := by unfold rootOf; rw [if_neg (by omega)]; rfl
      rw [hz]
      (repeat refine RC.seq ?_); refine RC.region ?_
      refine Run.a (Val.buildA tabOk (parts := []) (cells := (u8s (List.replicate 8 0)).toArray) rfl rfl rfl rfl rfl rfl) ?_
      refine Run.op1 (OpTo.setAll tabOk rfl rfl rfl rfl rfl (List.Perm.refl _) rfl rfl) (fun _ => ?_)
      refine Run.nil (RQ.next ?_)
      refine RC.ret ?_; (repeat first | refine RQ.thenRet ?_ | refine RQ.blockRet ?_)
      exact RQ.ret1 rfl (Res.cellU tabOk rfl rfl rfl m0 rfl) fun w' hm => ⟨rfl, hm.fr⟩
    · have h1 := of_decide_eq_false h
      clear h
      (repeat refine RC.seq ?_); refine RC.region ?_
      refine Run.a (Val.of rfl) ?_
      refine Run.a (Val.len (len := l.length) tabOk rfl rfl rfl rfl) ?_
      refine Run.a (Val.eq (Val.of rfl) (show _ = Value.bool (decide (l.length = 1)) from congrArg Value.bool (by rw [Bool.eq_iff_iff, beq_iff_eq, decide_eq_true_iff]; omega))) ?_
      refine Run.a (Val.of rfl) ?_
      refine Run.nil (RQ.next ?_)
      (repeat refine RC.seq ?_); refine RC.cond rfl (fun h => ?_) (fun h => ?_)
      · have h2 := of_decide_eq_true h
        obtain ⟨x, rfl⟩ : ∃ x, l = [x] := by
          match l, h2 with
          | [x], _ => exact ⟨x, rfl⟩
        have hx := hH x List.mem_cons_self
        have hz : rootOf [x] = leafN x := by unfold rootOf; rw [if_pos (by simp), mroot_one]
        rw [hz]
        have hd : (leafN x).length = 8 := digest_len _ _
        have hfl : u8s [x].flatten = u8s x := by simp
        rw [hfl] at hr
        have hx1 := hx.1
        (repeat refine RC.seq ?_); refine RC.region ?_
        refine Run.a (Val.of rfl) ?_
        refine Run.a (Val.ixS tabOk 0 (ad' := ad) rfl rfl rfl rfl rfl rfl rfl (by simp) (by rw [Nat.zero_mul]; exact add_zero_ ad)) ?_
        refine Run.a (Val.eq (Val.sliceAd tabOk rfl rfl rfl rfl rfl) (show _ = Value.slice (some ad) x.length x.length from by rw [hx1])) ?_
        refine Run.nw (New.buildSlice tabOk (parts := [(0, .tmp 20)]) (cells := [Value.slice (some ad) x.length x.length].toArray) rfl rfl rfl rfl rfl rfl (fillS_full 1 1 _ [Value.slice (some ad) x.length x.length] rfl (by simp [Value.cells]))) ?_
        intro b21
        refine Run.callV Tryz.func43 rfl rfl rfl rfl rfl rfl rfl (fun w' hm => Digest_calls 108 (by decide) _ _ [x] w' (SrcW.row hm m0 rfl (Nat.le_refl 1)) (parts1' (u := .slice (some ad) x.length x.length) ((SrcW.at ad x.length x.length (u8s x) (by rw [u8s_len, Nat.mul_one]) (Nat.le_refl _) hr).mem hm)) (by simp [tot, hx1]) (by simpa using hx.2)) ?_
        rw [show digest 108 [x] = leafN x from rfl]
        generalize leafN x = dg at *
        refine Run.op1 (OpTo.setAll tabOk rfl rfl rfl rfl rfl p1 hd rfl) (fun _ => ?_)
        refine Run.nil (RQ.next ?_)
        refine RC.ret ?_; (repeat first | refine RQ.thenRet ?_ | refine RQ.blockRet ?_)
        exact RQ.ret1 rfl (Res.cellU tabOk rfl rfl rfl m0 hd) fun w' hm => ⟨rfl, hm.fr⟩
      · have h2 := of_decide_eq_false h
        clear h
        have hlt := cut_lt (n := l.length) (by omega)
        have hps := cut_pos l.length
        have hrc := rootOf_cut (l := l) (by omega) (by omega)
        have ht : SrcW w 8 (.slice (some ad) (cut l.length) c) (l.take (cut l.length)).length (u8s (l.take (cut l.length)).flatten) := by
          rw [List.length_take, Nat.min_eq_left (by omega), flatten_take _ hH, u8s_take]
          exact SrcW.takeN hcl hr (by omega) hc
        have hdp : SrcW w 8 (.slice (some (ad.add (cut l.length * 8))) (l.length - cut l.length) (c - cut l.length)) (l.drop (cut l.length)).length (u8s (l.drop (cut l.length)).flatten) := by
          rw [List.length_drop, flatten_drop _ hH, u8s_drop]
          exact SrcW.dropN hcl hr hc
        have ih1 := ih (cut l.length) (by omega) (l.take (cut l.length)) (by rw [List.length_take]; omega) (hH.take _)
        have ih2 := ih (l.length - cut l.length) (by omega) (l.drop (cut l.length)) (by rw [List.length_drop]) (hH.drop _)
        have r1 := rootOf_len (l.take (cut l.length))
        have r2 := rootOf_len (l.drop (cut l.length))
        have s1 := rootOf_lt (l.take (cut l.length))
        have s2 := rootOf_lt (l.drop (cut l.length))
        refine RC.skip (RQ.blockNormal (RQ.next ?_))
        (repeat refine RC.seq ?_); refine RC.region ?_
        refine Run.a (Val.of rfl) ?_
        refine Run.a (Val.len (len := l.length) tabOk rfl rfl rfl rfl) ?_
        refine Run.callV Tryz.func94 rfl rfl rfl rfl rfl rfl rfl (fun w' _ => ref_cut_calls l.length (by omega) (by omega) w') ?_
        refine Run.a (Val.of rfl) ?_
        refine Run.nil (RQ.next ?_)
        (repeat refine RC.seq ?_); refine RC.drawS mixed (N := 10) rfl ?_
        refine DR.t 0 rfl (Val.of rfl) ?_
        refine DR.t 1 rfl (Val.of rfl) ?_
        refine DR.t 2 rfl (Val.eq (Val.sliceS' tabOk 0 (cut l.length) rfl rfl rfl rfl rfl (.inl ⟨rfl, rfl⟩) (.inr ⟨_, rfl, rfl⟩) (by omega) (by omega) (by omega) rfl) (show _ = Value.slice (some ad) (cut l.length) c from by rw [Nat.zero_mul, add_zero_, Nat.sub_zero, Nat.sub_zero])) ?_
        refine DR.t 4 rfl (Val.of rfl) ?_
        refine DR.t 5 rfl (Val.of rfl) ?_
        refine DR.t 6 rfl (Val.sliceS' tabOk (cut l.length) l.length rfl rfl rfl rfl rfl (.inr ⟨_, rfl, rfl⟩) (.inl ⟨rfl, rfl⟩) (by omega) (by omega) (by omega) rfl) ?_
        refine DR.c 3 ?_
        refine DOp.op1 rfl (OpTo.callV Tryz.func67 rfl rfl rfl rfl rfl rfl (fun w' hm => ih1 _ w' (ht.mem hm))) (fun _ => ?_)
        refine DR.c 7 ?_
        refine DOp.op1 rfl (OpTo.callV Tryz.func67 rfl rfl rfl rfl rfl rfl (fun w' hm => ih2 _ w' (hdp.mem hm))) (fun _ => ?_)
        refine DR.c 8 ?_
        refine DOp.op1 rfl (OpTo.callV Tryz.func95 rfl rfl rfl rfl rfl rfl (fun w' _ => ref_Two_calls 109 (by decide) _ _ r1 r2 s1 s2 w')) (fun _ => ?_)
        rw [show ∀ a b, digest 109 [a, b] = joinN a b from fun _ _ => rfl, hrc]
        generalize rootOf l = dg at *
        refine DR.c 9 ?_
        refine DOp.op1 rfl (OpTo.setAll tabOk rfl rfl rfl rfl rfl (List.Perm.refl _) hrl rfl) (fun _ => ?_)
        refine DR.done (by kernel_rfl) (RQ.next ?_)
        refine RC.ret ?_; (repeat first | refine RQ.thenRet ?_ | refine RQ.blockRet ?_)
        exact RQ.ret1 rfl (Res.cellU tabOk rfl rfl rfl m0 hrl) fun w' hm => ⟨rfl, hm.fr⟩

set_option maxRecDepth 10000 in set_option maxHeartbeats 4000000 in
theorem ref_Prove_calls : ∀ (n : Nat) (l : List (List Nat)), l.length = n → HL l → ∀ (z : Int) (v : Value) (w : World), SrcW w 8 v l.length (u8s l.flatten) →
    Makes2 Tryz.prog 79 [v, .int .i64 z] w 32 8 (provN l z).length (u8s (provN l z).flatten) (provB l z) := by
  intro n
  induction n using Nat.strongRecOn with
  | _ n ih =>
  intro l hl hH z v w hs
  obtain ⟨a, c, hv, hac⟩ := hs.shape
  by_cases hA : z < 0
  · obtain ⟨e1, e2⟩ := prov_bad (l := l) (z := z) (.inl hA)
    rw [e1, e2]
    subst hv
    refine enter Tryz.func79 rfl (Mem.nil w []) rfl ?_
    (repeat refine RC.seq ?_); refine RC.region ?_
    refine Run.a (Val.of rfl) ?_
    refine Run.a (Val.of rfl) ?_
    refine Run.nil (RQ.next ?_)
    (repeat refine RC.seq ?_); refine RC.region ?_
    refine Run.a (Val.of rfl) ?_
    refine Run.a (Val.eq (Val.of rfl) (show _ = Value.bool true from congrArg Value.bool (decide_eq_true (by omega)))) ?_
    refine Run.a (Val.of rfl) ?_
    refine Run.sk ?_
    refine Run.sk ?_
    refine Run.sk ?_
    refine Run.sk ?_
    refine Run.a (Val.of rfl) ?_
    refine Run.a (Val.of rfl) ?_
    refine Run.sk ?_
    refine Run.sk ?_
    refine Run.sk ?_
    refine Run.a (Val.of rfl) ?_
    refine Run.nil (RQ.next ?_)
    (repeat refine RC.seq ?_); refine RC.condT rfl rfl ?_
    (repeat refine RC.seq ?_); refine RC.region ?_
    refine Run.a (Val.of rfl) ?_
    refine Run.a (Val.of rfl) ?_
    refine Run.nil (RQ.next ?_)
    refine RC.ret ?_; (repeat first | refine RQ.thenRet ?_ | refine RQ.blockRet ?_)
    exact RQ.ret2 rfl (Res.tmp rfl) (Res.tmp rfl) fun w' hm => Makes2.nil hm
  by_cases hB : (l.length : Int) ≤ z
  · obtain ⟨e1, e2⟩ := prov_bad (l := l) (z := z) (.inr (.inl hB))
    rw [e1, e2]
    subst hv
    refine enter Tryz.func79 rfl (Mem.nil w []) rfl ?_
    (repeat refine RC.seq ?_); refine RC.region ?_
    refine Run.a (Val.of rfl) ?_
    refine Run.a (Val.of rfl) ?_
    refine Run.nil (RQ.next ?_)
    (repeat refine RC.seq ?_); refine RC.region ?_
    refine Run.a (Val.of rfl) ?_
    refine Run.a (Val.eq (Val.of rfl) (show _ = Value.bool false from congrArg Value.bool (decide_eq_false (by omega)))) ?_
    refine Run.a (Val.of rfl) ?_
    refine Run.a (Val.of rfl) ?_
    refine Run.a (Val.of rfl) ?_
    refine Run.a (Val.len (len := l.length) tabOk rfl rfl rfl rfl) ?_
    refine Run.a (Val.eq (Val.of rfl) (show _ = Value.bool true from congrArg Value.bool (decide_eq_true (by omega)))) ?_
    refine Run.a (Val.of rfl) ?_
    refine Run.a (Val.of rfl) ?_
    refine Run.sk ?_
    refine Run.sk ?_
    refine Run.sk ?_
    refine Run.a (Val.of rfl) ?_
    refine Run.nil (RQ.next ?_)
    (repeat refine RC.seq ?_); refine RC.condT rfl rfl ?_
    (repeat refine RC.seq ?_); refine RC.region ?_
    refine Run.a (Val.of rfl) ?_
    refine Run.a (Val.of rfl) ?_
    refine Run.nil (RQ.next ?_)
    refine RC.ret ?_; (repeat first | refine RQ.thenRet ?_ | refine RQ.blockRet ?_)
    exact RQ.ret2 rfl (Res.tmp rfl) (Res.tmp rfl) fun w' hm => Makes2.nil hm
  by_cases hC : 65536 < l.length
  · obtain ⟨e1, e2⟩ := prov_bad (l := l) (z := z) (.inr (.inr hC))
    rw [e1, e2]
    subst hv
    refine enter Tryz.func79 rfl (Mem.nil w []) rfl ?_
    (repeat refine RC.seq ?_); refine RC.region ?_
    refine Run.a (Val.of rfl) ?_
    refine Run.a (Val.of rfl) ?_
    refine Run.nil (RQ.next ?_)
    (repeat refine RC.seq ?_); refine RC.region ?_
    refine Run.a (Val.of rfl) ?_
    refine Run.a (Val.eq (Val.of rfl) (show _ = Value.bool false from congrArg Value.bool (decide_eq_false (by omega)))) ?_
    refine Run.a (Val.of rfl) ?_
    refine Run.a (Val.of rfl) ?_
    refine Run.a (Val.of rfl) ?_
    refine Run.a (Val.len (len := l.length) tabOk rfl rfl rfl rfl) ?_
    refine Run.a (Val.eq (Val.of rfl) (show _ = Value.bool false from congrArg Value.bool (decide_eq_false (by omega)))) ?_
    refine Run.a (Val.of rfl) ?_
    refine Run.a (Val.of rfl) ?_
    refine Run.a (Val.of rfl) ?_
    refine Run.a (Val.len (len := l.length) tabOk rfl rfl rfl rfl) ?_
    refine Run.a (Val.eq (Val.of rfl) (show _ = Value.bool true from congrArg Value.bool (decide_eq_true (by omega)))) ?_
    refine Run.a (Val.of rfl) ?_
    refine Run.nil (RQ.next ?_)
    (repeat refine RC.seq ?_); refine RC.condT rfl rfl ?_
    (repeat refine RC.seq ?_); refine RC.region ?_
    refine Run.a (Val.of rfl) ?_
    refine Run.a (Val.of rfl) ?_
    refine Run.nil (RQ.next ?_)
    refine RC.ret ?_; (repeat first | refine RQ.thenRet ?_ | refine RQ.blockRet ?_)
    exact RQ.ret2 rfl (Res.tmp rfl) (Res.tmp rfl) fun w' hm => Makes2.nil hm
  obtain ⟨i, rfl⟩ := Int.eq_ofNat_of_zero_le (show 0 ≤ z by omega)
  have hi : i < l.length := by omega
  obtain ⟨e1, e2⟩ := prov_good (l := l) (i := i) hi (by omega)
  rw [e1, e2]
  clear hv hac
  obtain ⟨ad, c, rfl, hc, hcl, hr⟩ := hs.pos (by omega)
  refine enter Tryz.func79 rfl (Mem.nil w []) rfl ?_
  (repeat refine RC.seq ?_); refine RC.region ?_
  refine Run.a (Val.of rfl) ?_
  refine Run.a (Val.of rfl) ?_
  refine Run.nil (RQ.next ?_)
  (repeat refine RC.seq ?_); refine RC.region ?_
  refine Run.a (Val.of rfl) ?_
  refine Run.a (Val.eq (Val.of rfl) (show _ = Value.bool false from congrArg Value.bool (decide_eq_false (by omega)))) ?_
  refine Run.a (Val.of rfl) ?_
  refine Run.a (Val.of rfl) ?_
  refine Run.a (Val.of rfl) ?_
  refine Run.a (Val.len (len := l.length) tabOk rfl rfl rfl rfl) ?_
  refine Run.a (Val.eq (Val.of rfl) (show _ = Value.bool false from congrArg Value.bool (decide_eq_false (by omega)))) ?_
  refine Run.a (Val.of rfl) ?_
  refine Run.a (Val.of rfl) ?_
  refine Run.a (Val.of rfl) ?_
  refine Run.a (Val.len (len := l.length) tabOk rfl rfl rfl rfl) ?_
  refine Run.a (Val.eq (Val.of rfl) (show _ = Value.bool false from congrArg Value.bool (decide_eq_false (by omega)))) ?_
  refine Run.a (Val.of rfl) ?_
  refine Run.nil (RQ.next ?_)
  (repeat refine RC.seq ?_); refine RC.condF rfl rfl (RC.skip (RQ.next ?_))
  (repeat refine RC.seq ?_); refine RC.region ?_
  refine Run.a (Val.of rfl) ?_
  refine Run.a (Val.len (len := l.length) tabOk rfl rfl rfl rfl) ?_
  refine Run.a (Val.eq (Val.of rfl) (show _ = Value.bool (decide (l.length = 1)) from congrArg Value.bool (by rw [Bool.eq_iff_iff, beq_iff_eq, decide_eq_true_iff]; omega))) ?_
  refine Run.nil (RQ.next ?_)
  (repeat refine RC.seq ?_); refine RC.cond rfl (fun h => ?_) (fun h => ?_)
  · have h1 := of_decide_eq_true h
    rw [mprove_small (by omega)]
    (repeat refine RC.seq ?_); refine RC.region ?_
    refine Run.a (Val.of rfl) ?_
    refine Run.a (Val.of rfl) ?_
    refine Run.nil (RQ.next ?_)
    refine RC.ret ?_; (repeat first | refine RQ.thenRet ?_ | refine RQ.blockRet ?_)
    exact RQ.ret2 rfl (Res.tmp rfl) (Res.tmp rfl) fun w' hm => Makes2.nil hm
  have h2 := of_decide_eq_false h
  clear h
  refine RC.skip (RQ.next ?_)
  have hlt := cut_lt (n := l.length) (by omega)
  have hps := cut_pos l.length
  have hge := cut_ge (n := l.length)
  have ht : SrcW w 8 (.slice (some ad) (cut l.length) c) (l.take (cut l.length)).length (u8s (l.take (cut l.length)).flatten) := by
    rw [List.length_take, Nat.min_eq_left (by omega), flatten_take _ hH, u8s_take]
    exact SrcW.takeN hcl hr (by omega) hc
  have hdp : SrcW w 8 (.slice (some (ad.add (cut l.length * 8))) (l.length - cut l.length) (c - cut l.length)) (l.drop (cut l.length)).length (u8s (l.drop (cut l.length)).flatten) := by
    rw [List.length_drop, flatten_drop _ hH, u8s_drop]
    exact SrcW.dropN hcl hr hc
  have ih1 := ih (cut l.length) (by omega) (l.take (cut l.length)) (by rw [List.length_take]; omega) (hH.take _)
  have ih2 := ih (l.length - cut l.length) (by omega) (l.drop (cut l.length)) (by rw [List.length_drop]) (hH.drop _)
  have hR1 := ref_Root_calls _ (l.take (cut l.length)) rfl (hH.take _)
  have hR2 := ref_Root_calls _ (l.drop (cut l.length)) rfl (hH.drop _)
  have r1 : rootOf (l.take (cut l.length)) = mroot (l.take (cut l.length)) := by unfold rootOf; rw [if_pos (by rw [List.length_take]; omega)]
  have r2 : rootOf (l.drop (cut l.length)) = mroot (l.drop (cut l.length)) := by unfold rootOf; rw [if_pos (by rw [List.length_drop]; omega)]
  have s1 := mroot_len (l.take (cut l.length))
  have s2 := mroot_len (l.drop (cut l.length))
  have lt1 : (l.take (cut l.length)).length = cut l.length := by rw [List.length_take]; omega
  have lt2 : (l.drop (cut l.length)).length = l.length - cut l.length := by rw [List.length_drop]
  (repeat refine RC.seq ?_); refine RC.region ?_
  refine Run.a (Val.of rfl) ?_
  refine Run.a (Val.len (len := l.length) tabOk rfl rfl rfl rfl) ?_
  refine Run.callV Tryz.func94 rfl rfl rfl rfl rfl rfl rfl (fun w' _ => ref_cut_calls l.length (by omega) (by omega) w') ?_
  refine Run.a (Val.of rfl) ?_
  refine Run.nil (RQ.next ?_)
  (repeat refine RC.seq ?_); refine RC.region ?_
  refine Run.a (Val.of rfl) ?_
  refine Run.a (Val.of rfl) ?_
  refine Run.a (Val.eq (Val.of rfl) (show _ = Value.bool (decide (i < cut l.length)) from congrArg Value.bool (by rw [decide_eq_decide]; omega))) ?_
  refine Run.nil (RQ.next ?_)
  (repeat refine RC.seq ?_); refine RC.cond rfl (fun h => ?_) (fun h => ?_)
  · have hk := of_decide_eq_true h
    clear h
    obtain ⟨f1, f2⟩ := prov_good (l := l.take (cut l.length)) (i := i) (by omega) (by omega)
    have ihh := ih1 (i : Int)
    rw [f1, f2] at ihh
    rw [mprove_left (by omega) hk]
    have hml := mprove_len _ (l.take (cut l.length)) i rfl (by omega)
    have hmb := turnsN_le _ i (cut l.length) rfl
    rw [lt1] at hml
    (repeat refine RC.seq ?_); refine RC.region ?_
    refine Run.a (Val.of rfl) ?_
    refine Run.a (Val.of rfl) ?_
    refine Run.a (Val.eq (Val.sliceS' tabOk 0 (cut l.length) rfl rfl rfl rfl rfl (.inl ⟨rfl, rfl⟩) (.inr ⟨_, rfl, rfl⟩) (by omega) (by omega) (by omega) rfl) (show _ = Value.slice (some ad) (cut l.length) c from by rw [Nat.zero_mul, add_zero_, Nat.sub_zero, Nat.sub_zero])) ?_
    refine Run.a (Val.of rfl) ?_
    refine Run.op rfl (OpTo.callMk2 Tryz.func79 rfl rfl rfl rfl rfl rfl (fun w' hm => ihh _ w' (ht.mem hm))) ?_
    rintro ⟨⟨vp, blp⟩, hownp⟩
    dsimp only at hownp ⊢
    refine Run.a (Val.of rfl) ?_
    refine Run.a (Val.of rfl) ?_
    refine Run.a (Val.of rfl) ?_
    refine Run.a (Val.of rfl) ?_
    refine Run.a (Val.of rfl) ?_
    refine Run.nil (RQ.next ?_)
    (repeat refine RC.seq ?_); refine RC.region ?_
    refine Run.a (Val.of rfl) ?_
    refine Run.a (Val.of rfl) ?_
    refine Run.a (Val.of rfl) ?_
    refine Run.a (Val.sliceS' tabOk (cut l.length) l.length rfl rfl rfl rfl rfl (.inr ⟨_, rfl, rfl⟩) (.inl ⟨rfl, rfl⟩) (by omega) (by omega) (by omega) rfl) ?_
    refine Run.callV Tryz.func67 rfl rfl rfl rfl rfl rfl rfl (fun w' hm => hR2 _ w' (hdp.mem hm)) ?_
    rw [r2]
    generalize mroot (l.drop (cut l.length)) = dg at *
    refine Run.nw (New.buildSlice tabOk (parts := [(0, .tmp 45)]) (cells := (u8s dg).toArray) rfl rfl rfl rfl rfl rfl (fillS_one _ _ dg s2)) ?_
    intro bb
    refine Run.op rfl (OpTo.append tabOk hownp (Src.at ⟨bb, 0, none⟩ 1 1 (u8s dg) (by rw [u8s_len, s2]; rfl) (Rd.rowAll m0)) rfl rfl rfl rfl rfl rfl rfl rfl rfl (List.perm_middle.symm) (u8s_one _) (by unfold maxLen; omega) (by simp only [ti32]; omega)) ?_
    rintro ⟨⟨vq, blq⟩, hownq⟩
    refine Run.a (Val.of rfl) ?_
    refine Run.a (Val.of rfl) ?_
    refine Run.nil (RQ.next ?_)
    refine RC.ret ?_; (repeat first | refine RQ.thenRet ?_ | refine RQ.blockRet ?_)
    exact RQ.ret2 rfl (Res.tmp rfl) (Res.tmp rfl) fun w' hm => Makes2.of (by have h9 : Own 32 8 vq _ _ blq := hownq; rw [← u8s_app] at h9; simpa [List.flatten_append] using h9) hm
  · have hk : cut l.length ≤ i := by have := of_decide_eq_false h; omega
    clear h
    obtain ⟨f1, f2⟩ := prov_good (l := l.drop (cut l.length)) (i := i - cut l.length) (by omega) (by omega)
    have ihh := ih2 ((i - cut l.length : Nat) : Int)
    rw [f1, f2] at ihh
    rw [mprove_right (by omega) hk]
    have hml := mprove_len _ (l.drop (cut l.length)) (i - cut l.length) rfl (by omega)
    have hmb := turnsN_le _ (i - cut l.length) (l.length - cut l.length) rfl
    rw [lt2] at hml
    refine RC.skip (RQ.next ?_)
    (repeat refine RC.seq ?_); refine RC.region ?_
    refine Run.a (Val.of rfl) ?_
    refine Run.a (Val.of rfl) ?_
    refine Run.a (Val.sliceS' tabOk (cut l.length) l.length rfl rfl rfl rfl rfl (.inr ⟨_, rfl, rfl⟩) (.inl ⟨rfl, rfl⟩) (by omega) (by omega) (by omega) rfl) ?_
    refine Run.a (Val.of rfl) ?_
    refine Run.a (Val.of rfl) ?_
    refine Run.a (Val.eq (Val.ar rfl rfl rfl rfl (by dsimp only [inK]; omega)) (show _ = Value.int .i64 ((i - cut l.length : Nat) : Int) from by congr 1; omega)) ?_
    refine Run.op rfl (OpTo.callMk2 Tryz.func79 rfl rfl rfl rfl rfl rfl (fun w' hm => ihh _ w' (hdp.mem hm))) ?_
    rintro ⟨⟨vp, blp⟩, hownp⟩
    dsimp only at hownp ⊢
    refine Run.a (Val.of rfl) ?_
    refine Run.a (Val.of rfl) ?_
    refine Run.a (Val.of rfl) ?_
    refine Run.a (Val.of rfl) ?_
    refine Run.a (Val.of rfl) ?_
    refine Run.nil (RQ.next ?_)
    (repeat refine RC.seq ?_); refine RC.region ?_
    refine Run.a (Val.of rfl) ?_
    refine Run.a (Val.of rfl) ?_
    refine Run.a (Val.of rfl) ?_
    refine Run.a (Val.eq (Val.sliceS' tabOk 0 (cut l.length) rfl rfl rfl rfl rfl (.inl ⟨rfl, rfl⟩) (.inr ⟨_, rfl, rfl⟩) (by omega) (by omega) (by omega) rfl) (show _ = Value.slice (some ad) (cut l.length) c from by rw [Nat.zero_mul, add_zero_, Nat.sub_zero, Nat.sub_zero])) ?_
    refine Run.callV Tryz.func67 rfl rfl rfl rfl rfl rfl rfl (fun w' hm => hR1 _ w' (ht.mem hm)) ?_
    rw [r1]
    generalize mroot (l.take (cut l.length)) = dg at *
    refine Run.nw (New.buildSlice tabOk (parts := [(0, .tmp 62)]) (cells := (u8s dg).toArray) rfl rfl rfl rfl rfl rfl (fillS_one _ _ dg s1)) ?_
    intro bb
    refine Run.op rfl (OpTo.append tabOk hownp (Src.at ⟨bb, 0, none⟩ 1 1 (u8s dg) (by rw [u8s_len, s1]; rfl) (Rd.rowAll m0)) rfl rfl rfl rfl rfl rfl rfl rfl rfl (List.perm_middle.symm) (u8s_one _) (by unfold maxLen; omega) (by simp only [ti32]; omega)) ?_
    rintro ⟨⟨vq, blq⟩, hownq⟩
    refine Run.a (Val.of rfl) ?_
    refine Run.a (Val.of rfl) ?_
    refine Run.nil (RQ.next ?_)
    refine RC.ret ?_; (repeat first | refine RQ.thenRet ?_ | refine RQ.blockRet ?_)
    exact RQ.ret2 rfl (Res.tmp rfl) (Res.tmp rfl) fun w' hm => Makes2.of (by have h9 : Own 32 8 vq _ _ blq := hownq; rw [← u8s_app] at h9; simpa [List.flatten_append] using h9) hm
end Go.Proofs.YtkkfaffehbjdgaaGreatDoor
end
section
/- The reference's Publics, Tree. -/
namespace Go.Sha
/-- The first i keys of a seed's tree. -/
def pubs (seed : List Nat) (i : Nat) : List (List Nat) := (List.range i).map (pubKey seed)
theorem pubs_len (seed : List Nat) (i : Nat) : (pubs seed i).length = i := by simp [pubs]
theorem pubs_succ (seed : List Nat) (i : Nat) : pubs seed (i + 1) = pubs seed i ++ [pubKey seed i] := by simp [pubs, List.range_succ]
theorem pubKey_8 (seed : List Nat) (i : Nat) : (pubKey seed i).length = 8 ∧ ∀ x ∈ pubKey seed i, x < 256 := ⟨digest_len _ _, digest_lt _ _⟩
theorem pubs_HL (seed : List Nat) (i : Nat) : HL (pubs seed i) := by
  intro h hh
  simp only [pubs, List.mem_map] at hh
  obtain ⟨k, _, rfl⟩ := hh
  exact pubKey_8 seed k
theorem pubs_at (seed : List Nat) (n i : Nat) (h : i < n) : (pubs seed n)[i]? = some (pubKey seed i) := by simp [pubs, h]
/-- A seed's root: chapter 8. -/
def treeOf (seed : List Nat) : List Nat := mroot (pubs seed 8)
theorem treeOf_root (seed : List Nat) : rootOf (pubs seed 8) = treeOf seed := by unfold rootOf treeOf; rw [if_pos (by rw [pubs_len]; decide)]
theorem treeOf_len (seed : List Nat) : (treeOf seed).length = 8 := mroot_len _
theorem treeOf_lt (seed : List Nat) : ∀ x ∈ treeOf seed, x < 256 := mroot_lt _
end Go.Sha
namespace Go.Proofs.YtkkfaffehbjdgaaGreatDoor
open Go Go.Vc Go.Sha

set_option maxRecDepth 10000 in set_option maxHeartbeats 4000000 in
theorem ref_Publics_calls (seed : List Nat) (hs : seed.length = 8) (hlt : ∀ x ∈ seed, x < 256) (w : World) :
    Makes Tryz.prog 68 [.agg (u8s seed).toArray] w 32 8 8 (u8s (pubs seed 8).flatten) := by
  refine enter Tryz.func68 rfl (Mem.nil w []) rfl ?_
  have c8 : (List.replicate 8 0 : List Nat).length = 8 := rfl
  have c9 : ∀ x ∈ (List.replicate 8 0 : List Nat), x < 256 := by decide
  (repeat refine RC.seq ?_); refine RC.region ?_
  refine Run.nw (New.boxA rfl rfl) ?_
  intro b1
  refine Run.a (Val.of rfl) ?_
  refine Run.nil (RQ.next ?_)
  (repeat refine RC.seq ?_); refine RC.region ?_
  refine Run.a (Val.of rfl) ?_
  refine Run.nil (RQ.next ?_)
  (repeat refine RC.seq ?_); refine RC.region ?_
  refine Run.a (Val.of rfl) ?_
  refine Run.nil (RQ.next ?_)
  (repeat refine RC.seq ?_); refine RC.block ?_
  refine RC.up 8 (D := Value × Hp) (fun i x => Own 32 8 x.1 i (u8s (pubs seed i).flatten) x.2)
    (fun i x => [(4, .int .i64 i), (3, x.1), (1, .pointer (some ⟨b1, 0, none⟩))])
    (fun i x => x.2 ++ [(b1, .cells (u8s seed).toArray 32 (0, 0))])
    0 (_, _) (Nat.zero_le _) Own.nil ⟨rfl, rfl, rfl, trivial⟩ (List.Sublist.refl _) ?_
  rintro i ⟨v3, bl3⟩ hi hown
  dsimp only at hown ⊢
  (repeat refine RC.seq ?_); refine RC.region ?_
  refine Run.a (Val.of rfl) ?_
  refine Run.a (Val.of rfl) ?_
  refine Run.nil (RQ.next ?_)
  (repeat refine RC.seq ?_); refine RC.wh rfl (fun h => RQ.next ?_) (fun h => ?_)
  · have hi' : i < 8 := by have := of_decide_eq_true h; omega
    clear h
    have hol := rowOf_len (opened_len seed i (List.replicate 8 0)) 16
    have hsl := rowOf_len (shutd_len seed i (List.replicate 8 0)) 16
    have holt := rowOf_lt (opened_lt seed i (List.replicate 8 0)) 16
    have hslt := rowOf_lt (shutd_lt seed i (List.replicate 8 0)) 16
    have pe := pubBy_signed seed i (List.replicate 8 0)
    have hsg := fun w' => ref_Sign_calls seed (List.replicate 8 0) hs hlt c8 c9 (i : Int) i (by omega) w'
    have hsu := pubs_succ seed i
    have hk8 := (pubKey_8 seed i).1
    generalize rowOf (opened seed i (List.replicate 8 0)) 16 = ro at *
    generalize rowOf (shutd seed i (List.replicate 8 0)) 16 = rs at *
    (repeat refine RC.seq ?_); refine RC.block ?_
    (repeat refine RC.seq ?_); refine RC.region ?_
    refine Run.a (Val.loadU tabOk rfl rfl rfl rfl (List.mem_append_right _ m0) hs) ?_
    refine Run.a (Val.of rfl) ?_
    refine Run.a (Val.buildA tabOk (parts := []) (cells := (u8s (List.replicate 8 0)).toArray) rfl rfl rfl rfl rfl rfl) ?_
    refine Run.callV Tryz.func78 rfl rfl rfl rfl rfl rfl rfl (fun w' _ => hsg w') ?_
    refine Run.a (Val.of rfl) ?_
    refine Run.a (Val.of rfl) ?_
    refine Run.a (Val.of rfl) ?_
    refine Run.nw (New.alloc tabOk rfl rfl) ?_
    intro b5
    refine Run.nw (New.alloc tabOk rfl rfl) ?_
    intro b6
    refine Run.op1 (OpTo.setAll tabOk rfl rfl rfl rfl rfl p1 hol rfl) (fun _ => ?_)
    refine Run.op1 (OpTo.setAll tabOk rfl rfl rfl rfl rfl p1 hsl rfl) (fun _ => ?_)
    refine Run.nil (RQ.next ?_)
    refine RC.region ?_
    refine Run.a (Val.of rfl) ?_
    refine Run.a (Val.buildA tabOk (parts := []) (cells := (u8s (List.replicate 8 0)).toArray) rfl rfl rfl rfl rfl rfl) ?_
    refine Run.a (Val.loadU tabOk rfl rfl rfl rfl m1 hol) ?_
    refine Run.a (Val.loadU tabOk rfl rfl rfl rfl m0 hsl) ?_
    refine Run.callV Tryz.func96 rfl rfl rfl rfl rfl rfl rfl (fun w' _ => ref_Public_calls (List.replicate 8 0) ro rs c8 c9 hol holt hsl hslt w') ?_
    rw [pe]
    generalize pubKey seed i = pk at *
    refine Run.nw (New.buildSlice tabOk (parts := [(0, .tmp 22)]) (cells := (u8s pk).toArray) rfl rfl rfl rfl rfl rfl (fillS_one _ _ pk hk8)) ?_
    intro b23
    refine Run.op rfl (OpTo.append tabOk hown (Src.at ⟨b23, 0, none⟩ 1 1 (u8s pk) (by rw [u8s_len, hk8]; rfl) (Rd.rowAll m0)) rfl rfl rfl rfl rfl rfl rfl rfl rfl (List.perm_append_comm_assoc [_, _, _] bl3 _) (u8s_one _) (by unfold maxLen; omega) (by simp only [ti32]; omega)) ?_
    rintro ⟨⟨v9, bl9⟩, hown9⟩
    refine Run.a (Val.of rfl) ?_
    refine Run.nil (RQ.blockNormal (RQ.next ?_))
    refine RC.region ?_
    repeat (first | refine Run.a Val.ra ?_ | refine Run.a (Val.of rfl) ?_)
    refine Run.nil (RQ.up (i + 1) (v9, bl9) (Nat.lt_succ_self _) hi' ?_ ⟨rfl, rfl, rfl, trivial⟩ (List.Sublist.append (List.Sublist.refl _) (List.Sublist.cons _ (List.Sublist.cons _ (List.Sublist.cons _ (List.Sublist.refl _))))))
    have h : Own 32 8 v9 (i + 1) _ bl9 := hown9
    rw [← u8s_app] at h
    rw [hsu]
    simpa [List.flatten_append] using h
  · have hi' : i = 8 := by have := of_decide_eq_false h; omega
    subst hi'
    (repeat refine RQ.thenExit ?_); refine RQ.blockHere ?_
    refine RQ.next ?_
    (repeat refine RC.seq ?_); refine RC.region ?_
    refine Run.a (Val.of rfl) ?_
    refine Run.a (Val.of rfl) ?_
    refine Run.nil (RQ.next ?_)
    refine RC.ret ?_; (repeat first | refine RQ.thenRet ?_ | refine RQ.blockRet ?_)
    exact RQ.ret1 rfl (Res.tmp rfl) fun w' hm => Makes.of hown hm

set_option maxRecDepth 10000 in set_option maxHeartbeats 4000000 in
theorem ref_Tree_calls (seed : List Nat) (hs : seed.length = 8) (hlt : ∀ x ∈ seed, x < 256) (w : World) :
    Gives Tryz.prog 38 [.agg (u8s seed).toArray] (.agg (u8s (treeOf seed)).toArray) w := by
  refine enter Tryz.func38 rfl (Mem.nil w []) rfl ?_
  have hR := ref_Root_calls _ (pubs seed 8) rfl (pubs_HL seed 8)
  have htl := treeOf_len seed
  rw [treeOf_root, pubs_len] at hR
  (repeat refine RC.seq ?_); refine RC.region ?_
  refine Run.nw (New.boxA rfl rfl) ?_
  intro b1
  refine Run.nw (New.alloc tabOk rfl rfl) ?_
  intro b2
  refine Run.nil (RQ.next ?_)
  (repeat refine RC.seq ?_); refine RC.region ?_
  refine Run.a (Val.loadU tabOk rfl rfl rfl rfl (by repeat (first | exact List.mem_cons_self | apply List.mem_cons_of_mem | apply List.mem_append_right)) hs) ?_
  refine Run.op rfl (OpTo.callMk Tryz.func68 rfl rfl rfl rfl rfl rfl (fun w' _ => ref_Publics_calls seed hs hlt w')) ?_
  rintro ⟨⟨v4, bl4⟩, hown⟩
  dsimp only at hown ⊢
  refine Run.callV Tryz.func67 rfl rfl rfl rfl rfl rfl rfl (fun w' hm => hR v4 w' (hown.srcW (fun q hq => hm.has q (List.mem_append_left _ hq)))) ?_
  generalize treeOf seed = dg at *
  refine Run.op1 (OpTo.setAll tabOk rfl rfl rfl rfl rfl List.perm_middle htl rfl) (fun _ => ?_)
  refine Run.nil (RQ.next ?_)
  refine RC.ret ?_; (repeat first | refine RQ.thenRet ?_ | refine RQ.blockRet ?_)
  exact RQ.ret1 rfl (Res.cellU tabOk rfl rfl rfl m0 htl) fun w' hm => ⟨rfl, hm.fr⟩
end Go.Proofs.YtkkfaffehbjdgaaGreatDoor
end
