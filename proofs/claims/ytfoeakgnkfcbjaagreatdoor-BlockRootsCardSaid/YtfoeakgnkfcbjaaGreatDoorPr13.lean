/- Lemmas. -/
import Derived.Test.YtfoeakgnkfcbjaaGreatDoorPr12
set_option linter.unusedSimpArgs false
set_option linter.unusedVariables false
section
/- The reference's cut, Root, Prove. -/
namespace Go.Vc
open Go
section
variable {P : Program} {n : Nat} {w0 : World} {S0 : List Nat} {E : Env} {L : Hp} {o : Oper} {T : List (Nat × TI)} {t : Nat} {ti : TI}
/-- p[:] of an array somewhere. -/
theorem Val.sliceAd (hT : TabOk P T) {x : Operand} {ad : Addr} {len el : Nat} {ei : TI} (ho : o.op = .slice t x none none none) (ht : tiGet T t = some ti) (hd : ti.desc = .array len el) (he : tiGet T el = some ei)
    (hx : lk E x = some (.pointer (some ad))) : Val P n w0 S0 E L o (.slice (some ad) len len) := by
  intro a w hs _
  have h2 := (hT _ _ ht).1
  rw [hd] at h2
  by_cases hl : len = 0 <;> simp [execOp, ho, hs.eval hx, Instr.sliceAt, run_underlying h2, Instr.sureAddr, Instr.sliceBounds, (hT _ _ he).size, hl, Addr.add]
end
end Go.Vc
namespace Go.Proofs.YtfoeakgnkfcbjaaGreatDoor
open Go Go.Vc Go.Sha

set_option maxRecDepth 10000 in set_option maxHeartbeats 4000000 in
theorem ref_cut_calls (n : Nat) (h2 : 2 ≤ n) (hn : n ≤ 65536) (w : World) : Gives Tryz.prog 60 [.int .i64 n] (.int .i64 (cut n : Nat)) w := by
  refine enter Tryz.func60 rfl (Mem.nil w []) rfl ?_
  (repeat refine RC.seq ?_); refine RC.region ?_
  refine Run.a (Val.of rfl) ?_
  refine Run.nil (RQ.next ?_)
  (repeat refine RC.seq ?_); refine RC.region ?_
  refine Run.a (Val.of rfl) ?_
  refine Run.nil (RQ.next ?_)
  (repeat refine RC.seq ?_); refine RC.block ?_
  refine RC.up 17 (D := Unit) (fun j _ => 2 ^ j < n) (fun j _ => [(3, .int .i64 (2 ^ j : Nat)), (0, .int .i64 n)]) (fun _ _ => []) 0 () (Nat.zero_le _) (by show 1 < n; omega) ⟨rfl, rfl, trivial⟩ (List.Sublist.refl _) ?_
  intro j _ hj hlt
  have hp : 2 ^ (j + 1) = 2 * 2 ^ j := by rw [Nat.pow_succ, Nat.mul_comm]
  have hj16 : j < 17 := by
    rcases Nat.lt_or_ge j 17 with h | h
    · exact h
    · have : 2 ^ 17 ≤ 2 ^ j := Nat.pow_le_pow_right (by decide) h
      have e : (2 : Nat) ^ 17 = 131072 := rfl
      omega
  have hce := cut_eq (n := n) (j := j) hlt
  generalize hq : 2 ^ j = q at *
  (repeat refine RC.seq ?_); refine RC.region ?_
  refine Run.a (Val.of rfl) ?_
  refine Run.a (Val.eq (Val.ar rfl rfl rfl rfl (by dsimp only [inK]; omega)) (show _ = Value.int .i64 ((2 * q : Nat) : Int) from by congr 1)) ?_
  refine Run.a (Val.of rfl) ?_
  refine Run.a (Val.eq (Val.of rfl) (show _ = Value.bool (decide (2 * q < n)) from congrArg Value.bool (by rw [decide_eq_decide]; omega))) ?_
  refine Run.nil (RQ.next ?_)
  (repeat refine RC.seq ?_); refine RC.wh rfl (fun h => RQ.next ?_) (fun h => ?_)
  · have h1 := of_decide_eq_true h
    (repeat refine RC.seq ?_); refine RC.block ?_
    refine RC.region ?_
    refine Run.a (Val.of rfl) ?_
    refine Run.a (Val.eq (Val.ar rfl rfl rfl rfl (by dsimp only [inK]; omega)) (show _ = Value.int .i64 ((2 ^ (j + 1) : Nat) : Int) from by rw [hp]; congr 1)) ?_
    refine Run.a (Val.of rfl) ?_
    exact Run.nil (RQ.blockNormal (RQ.up (j + 1) () (Nat.lt_succ_self _) hj16 (by rw [hp]; exact h1) ⟨rfl, rfl, trivial⟩ (List.Sublist.refl _)))
  · have h1 := of_decide_eq_false h
    have hce := hce (by omega)
    (repeat refine RQ.thenExit ?_); refine RQ.blockHere ?_
    refine RQ.next ?_
    (repeat refine RC.seq ?_); refine RC.region ?_
    refine Run.a (Val.of rfl) ?_
    refine Run.a (Val.of rfl) ?_
    refine Run.nil (RQ.next ?_)
    rw [hce]
    refine RC.ret ?_; (repeat first | refine RQ.thenRet ?_ | refine RQ.blockRet ?_); exact RQ.ret1 rfl (Res.tmp rfl) fun w' hm => ⟨rfl, hm.fr⟩

set_option maxRecDepth 10000 in set_option maxHeartbeats 4000000 in
theorem ref_Root_calls : ∀ (n : Nat) (l : List (List Nat)), l.length = n → HL l → ∀ (v : Value) (w : World), SrcW w 8 v l.length (u8s l.flatten) →
    Gives Tryz.prog 29 [v] (.agg (u8s (rootOf l)).toArray) w := by
  intro n
  induction n using Nat.strongRecOn with
  | _ n ih =>
  intro l hl hH v w hs
  have hrl := rootOf_len l
  by_cases h0 : l.length = 0
  · obtain ⟨a, c, rfl, hc⟩ := hs.shape
    have hz : rootOf l = List.replicate 8 0 := by rw [List.eq_nil_of_length_eq_zero h0]; unfold rootOf; rw [if_pos (by decide), mroot_nil]; rfl
    rw [hz]
    refine enter Tryz.func29 rfl (Mem.nil w []) rfl ?_
    (repeat refine RC.seq ?_); refine RC.region ?_
    refine Run.nw (New.alloc tabOk rfl rfl) ?_
    intro b2
    refine Run.nil (RQ.next ?_)
    (repeat refine RC.seq ?_); refine RC.block ?_
    (repeat refine RC.seq ?_); refine RC.region ?_
    refine Run.a (Val.of rfl) ?_
    refine Run.a (Val.len (len := l.length) tabOk rfl rfl rfl rfl) ?_
    refine Run.a (Val.eq (Val.of rfl) (show _ = Value.bool true from congrArg Value.bool (by rw [beq_iff_eq]; omega))) ?_
    refine Run.a (Val.of rfl) ?_
    refine Run.sk ?_
    refine Run.sk ?_
    refine Run.sk ?_
    refine Run.a (Val.of rfl) ?_
    refine Run.a (Val.of rfl) ?_
    refine Run.nil (RQ.next ?_)
    (repeat refine RC.seq ?_); refine RC.condT rfl rfl ?_
    (repeat refine RC.seq ?_); refine RC.region ?_
    refine Run.a (Val.buildA tabOk (parts := []) (cells := (u8s (List.replicate 8 0)).toArray) rfl rfl rfl rfl rfl rfl) ?_
    refine Run.op1 (OpTo.setAll tabOk rfl rfl rfl rfl rfl (List.Perm.refl _) rfl rfl) (fun _ => ?_)
    refine Run.nil (RQ.next ?_)
    refine RC.ret ?_; (repeat first | refine RQ.thenRet ?_ | refine RQ.blockRet ?_)
    exact RQ.ret1 rfl (Res.cellU tabOk rfl rfl rfl m0 rfl) fun w' hm => ⟨rfl, hm.fr⟩
  · obtain ⟨ad, c, rfl, hc, hcl, hr⟩ := hs.pos (by omega)
    refine enter Tryz.func29 rfl (Mem.nil w []) rfl ?_
    (repeat refine RC.seq ?_); refine RC.region ?_
    refine Run.nw (New.alloc tabOk rfl rfl) ?_
    intro b2
    refine Run.nil (RQ.next ?_)
    (repeat refine RC.seq ?_); refine RC.block ?_
    (repeat refine RC.seq ?_); refine RC.region ?_
    refine Run.a (Val.of rfl) ?_
    refine Run.a (Val.len (len := l.length) tabOk rfl rfl rfl rfl) ?_
    refine Run.a (Val.eq (Val.of rfl) (show _ = Value.bool false from congrArg Value.bool (by rw [beq_eq_false_iff_ne]; omega))) ?_
    refine Run.a (Val.of rfl) ?_
    refine Run.a (Val.of rfl) ?_
    refine Run.a (Val.len (len := l.length) tabOk rfl rfl rfl rfl) ?_
    refine Run.a (Val.eq (Val.of rfl) (show _ = Value.bool (decide (65536 < l.length)) from congrArg Value.bool (by rw [decide_eq_decide]; omega))) ?_
    refine Run.a (Val.of rfl) ?_
    refine Run.a (Val.of rfl) ?_
    refine Run.nil (RQ.next ?_)
    (repeat refine RC.seq ?_); refine RC.cond rfl (fun h => ?_) (fun h => ?_)
    · have h1 := of_decide_eq_true h
      have hz : rootOf l = List.replicate 8 0 := by unfold rootOf; rw [if_neg (by omega)]; rfl
      rw [hz]
      (repeat refine RC.seq ?_); refine RC.region ?_
      refine Run.a (Val.buildA tabOk (parts := []) (cells := (u8s (List.replicate 8 0)).toArray) rfl rfl rfl rfl rfl rfl) ?_
      refine Run.op1 (OpTo.setAll tabOk rfl rfl rfl rfl rfl (List.Perm.refl _) rfl rfl) (fun _ => ?_)
      refine Run.nil (RQ.next ?_)
      refine RC.ret ?_; (repeat first | refine RQ.thenRet ?_ | refine RQ.blockRet ?_)
      exact RQ.ret1 rfl (Res.cellU tabOk rfl rfl rfl m0 rfl) fun w' hm => ⟨rfl, hm.fr⟩
    · have h1 := of_decide_eq_false h
      clear h
      (repeat refine RC.seq ?_); refine RC.region ?_
      refine Run.a (Val.of rfl) ?_
      refine Run.a (Val.len (len := l.length) tabOk rfl rfl rfl rfl) ?_
      refine Run.a (Val.eq (Val.of rfl) (show _ = Value.bool (decide (l.length = 1)) from congrArg Value.bool (by rw [Bool.eq_iff_iff, beq_iff_eq, decide_eq_true_iff]; omega))) ?_
      refine Run.a (Val.of rfl) ?_
      refine Run.nil (RQ.next ?_)
      (repeat refine RC.seq ?_); refine RC.cond rfl (fun h => ?_) (fun h => ?_)
      · have h2 := of_decide_eq_true h
        obtain ⟨x, rfl⟩ : ∃ x, l = [x] := by
          match l, h2 with
          | [x], _ => exact ⟨x, rfl⟩
        have hx := hH x List.mem_cons_self
        have hz : rootOf [x] = leafN x := by unfold rootOf; rw [if_pos (by simp), mroot_one]
        rw [hz]
        have hd : (leafN x).length = 8 := digest_len _ _
        have hfl : u8s [x].flatten = u8s x := by simp
        rw [hfl] at hr
        have hx1 := hx.1
        (repeat refine RC.seq ?_); refine RC.region ?_
        refine Run.a (Val.of rfl) ?_
        refine Run.a (Val.ixS tabOk 0 (ad' := ad) rfl rfl rfl rfl rfl rfl rfl (by simp) (by rw [Nat.zero_mul]; exact add_zero_ ad)) ?_
        refine Run.a (Val.eq (Val.sliceAd tabOk rfl rfl rfl rfl rfl) (show _ = Value.slice (some ad) x.length x.length from by rw [hx1])) ?_
        refine Run.nw (New.buildSlice tabOk (parts := [(0, .tmp 20)]) (cells := [Value.slice (some ad) x.length x.length].toArray) rfl rfl rfl rfl rfl rfl (fillS_full 1 1 _ [Value.slice (some ad) x.length x.length] rfl (by simp [Value.cells]))) ?_
        intro b21
        refine Run.callV Tryz.func14 rfl rfl rfl rfl rfl rfl rfl (fun w' hm => Digest_calls 108 (by decide) _ _ [x] w' (SrcW.row hm m0 rfl (Nat.le_refl 1)) (parts1' (u := .slice (some ad) x.length x.length) ((SrcW.at ad x.length x.length (u8s x) (by rw [u8s_len, Nat.mul_one]) (Nat.le_refl _) hr).mem hm)) (by simp [tot, hx1]) (by simpa using hx.2)) ?_
        rw [show digest 108 [x] = leafN x from rfl]
        generalize leafN x = dg at *
        refine Run.op1 (OpTo.setAll tabOk rfl rfl rfl rfl rfl p1 hd rfl) (fun _ => ?_)
        refine Run.nil (RQ.next ?_)
        refine RC.ret ?_; (repeat first | refine RQ.thenRet ?_ | refine RQ.blockRet ?_)
        exact RQ.ret1 rfl (Res.cellU tabOk rfl rfl rfl m0 hd) fun w' hm => ⟨rfl, hm.fr⟩
      · have h2 := of_decide_eq_false h
        clear h
        have hlt := cut_lt (n := l.length) (by omega)
        have hps := cut_pos l.length
        have hrc := rootOf_cut (l := l) (by omega) (by omega)
        have ht : SrcW w 8 (.slice (some ad) (cut l.length) c) (l.take (cut l.length)).length (u8s (l.take (cut l.length)).flatten) := by
          rw [List.length_take, Nat.min_eq_left (by omega), flatten_take _ hH, u8s_take]
          exact SrcW.takeN hcl hr (by omega) hc
        have hdp : SrcW w 8 (.slice (some (ad.add (cut l.length * 8))) (l.length - cut l.length) (c - cut l.length)) (l.drop (cut l.length)).length (u8s (l.drop (cut l.length)).flatten) := by
          rw [List.length_drop, flatten_drop _ hH, u8s_drop]
          exact SrcW.dropN hcl hr hc
        have ih1 := ih (cut l.length) (by omega) (l.take (cut l.length)) (by rw [List.length_take]; omega) (hH.take _)
        have ih2 := ih (l.length - cut l.length) (by omega) (l.drop (cut l.length)) (by rw [List.length_drop]) (hH.drop _)
        have r1 := rootOf_len (l.take (cut l.length))
        have r2 := rootOf_len (l.drop (cut l.length))
        have s1 := rootOf_lt (l.take (cut l.length))
        have s2 := rootOf_lt (l.drop (cut l.length))
        refine RC.skip (RQ.blockNormal (RQ.next ?_))
        (repeat refine RC.seq ?_); refine RC.region ?_
        refine Run.a (Val.of rfl) ?_
        refine Run.a (Val.len (len := l.length) tabOk rfl rfl rfl rfl) ?_
        refine Run.callV Tryz.func60 rfl rfl rfl rfl rfl rfl rfl (fun w' _ => ref_cut_calls l.length (by omega) (by omega) w') ?_
        refine Run.a (Val.of rfl) ?_
        refine Run.nil (RQ.next ?_)
        (repeat refine RC.seq ?_); refine RC.drawS mixed (N := 10) rfl ?_
        refine DR.t 0 rfl (Val.of rfl) ?_
        refine DR.t 1 rfl (Val.of rfl) ?_
        refine DR.t 2 rfl (Val.eq (Val.sliceS' tabOk 0 (cut l.length) rfl rfl rfl rfl rfl (.inl ⟨rfl, rfl⟩) (.inr ⟨_, rfl, rfl⟩) (by omega) (by omega) (by omega) rfl) (show _ = Value.slice (some ad) (cut l.length) c from by rw [Nat.zero_mul, add_zero_, Nat.sub_zero, Nat.sub_zero])) ?_
        refine DR.t 4 rfl (Val.of rfl) ?_
        refine DR.t 5 rfl (Val.of rfl) ?_
        refine DR.t 6 rfl (Val.sliceS' tabOk (cut l.length) l.length rfl rfl rfl rfl rfl (.inr ⟨_, rfl, rfl⟩) (.inl ⟨rfl, rfl⟩) (by omega) (by omega) (by omega) rfl) ?_
        refine DR.c 3 ?_
        refine DOp.op1 rfl (OpTo.callV Tryz.func29 rfl rfl rfl rfl rfl rfl (fun w' hm => ih1 _ w' (ht.mem hm))) (fun _ => ?_)
        refine DR.c 7 ?_
        refine DOp.op1 rfl (OpTo.callV Tryz.func29 rfl rfl rfl rfl rfl rfl (fun w' hm => ih2 _ w' (hdp.mem hm))) (fun _ => ?_)
        refine DR.c 8 ?_
        refine DOp.op1 rfl (OpTo.callV Tryz.func61 rfl rfl rfl rfl rfl rfl (fun w' _ => ref_Two_calls 109 (by decide) _ _ r1 r2 s1 s2 w')) (fun _ => ?_)
        rw [show ∀ a b, digest 109 [a, b] = joinN a b from fun _ _ => rfl, hrc]
        generalize rootOf l = dg at *
        refine DR.c 9 ?_
        refine DOp.op1 rfl (OpTo.setAll tabOk rfl rfl rfl rfl rfl (List.Perm.refl _) hrl rfl) (fun _ => ?_)
        refine DR.done (by kernel_rfl) (RQ.next ?_)
        refine RC.ret ?_; (repeat first | refine RQ.thenRet ?_ | refine RQ.blockRet ?_)
        exact RQ.ret1 rfl (Res.cellU tabOk rfl rfl rfl m0 hrl) fun w' hm => ⟨rfl, hm.fr⟩

end Go.Proofs.YtfoeakgnkfcbjaaGreatDoor
end
section
/- The reference's Publics, Tree. -/
namespace Go.Sha
end Go.Sha
namespace Go.Proofs.YtfoeakgnkfcbjaaGreatDoor
open Go Go.Vc Go.Sha

end Go.Proofs.YtfoeakgnkfcbjaaGreatDoor
end
section
/- merkle.turns, Check. -/
namespace Go.Sha
/-- Whether a proof leads from a leaf to a root, for any numbers. -/
def checkM (root x : List Nat) (zi zn : Int) (ps : List (List Nat)) : Bool := decide (1 ≤ zn ∧ zn ≤ 65536 ∧ 0 ≤ zi ∧ zi < zn) && leads root x zi.toNat zn.toNat ps
theorem chk_bad {root x : List Nat} {zi zn : Int} {ps : List (List Nat)} (h : zn < 1 ∨ 65536 < zn ∨ zi < 0 ∨ zn ≤ zi) : checkM root x zi zn ps = false := by
  unfold checkM
  rw [decide_eq_false (by omega)]; rfl
theorem chk_good {root x : List Nat} {i n : Nat} {ps : List (List Nat)} (h : i < n) (hn : n ≤ 65536) : checkM root x (i : Int) (n : Int) ps = leads root x i n ps := by
  unfold checkM
  rw [decide_eq_true (by omega)]; rfl
/-- Bools, as cells. -/
def bls (l : List Bool) : List Go.Value := l.map Go.Value.bool
theorem bls_len (l : List Bool) : (bls l).length = l.length := by simp [bls]
theorem upAll_take_succ (h : List Nat) (ts : List Bool) (ps : List (List Nat)) (k : Nat) (t : Bool) (p : List Nat) (ht : ts[k]? = some t) (hp : ps[k]? = some p) : upAll h (ts.take (k + 1)) (ps.take (k + 1)) = upStep (upAll h (ts.take k) (ps.take k)) t p := by
  have h1 := (List.getElem?_eq_some_iff.1 ht).1
  have h2 := (List.getElem?_eq_some_iff.1 hp).1
  rw [List.take_succ_eq_append_getElem h1, List.take_succ_eq_append_getElem h2, (List.getElem?_eq_some_iff.1 ht).2, (List.getElem?_eq_some_iff.1 hp).2]
  exact upAll_snoc _ _ _ _ _ (by rw [List.length_take, List.length_take]; omega)
theorem upAll_8 : ∀ (ts : List Bool) (ps : List (List Nat)) (h : List Nat), h.length = 8 → (∀ x ∈ h, x < 256) → (upAll h ts ps).length = 8 ∧ ∀ x ∈ upAll h ts ps, x < 256
  | [], [], h, h1, h2 => ⟨h1, h2⟩
  | [], _ :: _, h, h1, h2 => ⟨h1, h2⟩
  | _ :: _, [], h, h1, h2 => ⟨h1, h2⟩
  | t :: ts, p :: ps, h, _, _ => by
    show (upAll (upStep h t p) ts ps).length = 8 ∧ ∀ x ∈ upAll (upStep h t p) ts ps, x < 256
    refine upAll_8 ts ps _ ?_ ?_ <;> unfold upStep <;> split
    · exact digest_len _ _
    · exact digest_len _ _
    · exact digest_lt _ _
    · exact digest_lt _ _
end Go.Sha
namespace Go.Proofs.YtfoeakgnkfcbjaaGreatDoor
open Go Go.Vc Go.Sha

set_option maxRecDepth 10000 in set_option maxHeartbeats 4000000 in
theorem turns_calls (i0 n0 : Nat) (hi0 : i0 < n0) (hn0 : n0 ≤ 65536) (w : World) :
    Makes Tryz.prog 57 [.int .i64 i0, .int .i64 n0] w 4 1 (turnsN i0 n0).length (bls (turnsN i0 n0)) := by
  refine enter Tryz.func57 rfl (Mem.nil w []) rfl ?_
  have hle0 := turnsN_le _ i0 n0 rfl
  (repeat refine RC.seq ?_); refine RC.region ?_
  refine Run.a (Val.of rfl) ?_
  refine Run.nil (RQ.next ?_)
  (repeat refine RC.seq ?_); refine RC.region ?_
  refine Run.a (Val.of rfl) ?_
  refine Run.nil (RQ.next ?_)
  (repeat refine RC.seq ?_); refine RC.block ?_
  refine RC.up n0 (D := Nat × Nat × List Bool × Value × Hp) (fun j x => x.1 < x.2.1 ∧ x.2.1 + j ≤ n0 ∧ turnsN i0 n0 = turnsN x.1 x.2.1 ++ x.2.2.1 ∧ Own 4 1 x.2.2.2.1 x.2.2.1.length (bls x.2.2.1) x.2.2.2.2)
    (fun _ x => [(0, .int .i64 x.1), (1, .int .i64 x.2.1), (5, x.2.2.2.1)])
    (fun _ x => x.2.2.2.2)
    0 (i0, n0, [], _, []) (Nat.zero_le _) ⟨hi0, Nat.le_refl _, (List.append_nil _).symm, Own.nil⟩ ⟨rfl, rfl, rfl, trivial⟩ (List.nil_sublist _) ?_
  rintro j ⟨i, n, ts, v5, bl5⟩ hj ⟨hin, hnj, hT, hown⟩
  dsimp only at hin hnj hT hown ⊢
  (repeat refine RC.seq ?_); refine RC.region ?_
  refine Run.a (Val.of rfl) ?_
  refine Run.a (Val.eq (Val.of rfl) (show _ = Value.bool (decide (1 < n)) from congrArg Value.bool (by rw [decide_eq_decide]; omega))) ?_
  refine Run.nil (RQ.next ?_)
  (repeat refine RC.seq ?_); refine RC.wh rfl (fun h => RQ.next ?_) (fun h => ?_)
  · have h1 := of_decide_eq_true h
    clear h
    have hc := cut_lt (n := n) (by omega)
    have hp := cut_pos n
    have hlen : (turnsN i0 n0).length = (turnsN i n).length + ts.length := by rw [hT, List.length_append]
    (repeat refine RC.seq ?_); refine RC.block ?_
    (repeat refine RC.seq ?_); refine RC.region ?_
    refine Run.a (Val.of rfl) ?_
    refine Run.callV Tryz.func56 rfl rfl rfl rfl rfl rfl rfl (fun w' _ => half_calls n (by omega) (by omega) w') ?_
    refine Run.a (Val.of rfl) ?_
    refine Run.nil (RQ.next ?_)
    (repeat refine RC.seq ?_); refine RC.region ?_
    refine Run.a (Val.of rfl) ?_
    refine Run.a (Val.of rfl) ?_
    refine Run.a (Val.eq (Val.of rfl) (show _ = Value.bool (decide (cut n ≤ i)) from congrArg Value.bool (by rw [decide_eq_decide]; omega))) ?_
    refine Run.a (Val.of rfl) ?_
    refine Run.nil (RQ.next ?_)
    (repeat refine RC.seq ?_); refine RC.region ?_
    refine Run.a (Val.of rfl) ?_
    refine Run.nw (New.buildSlice tabOk (parts := [(0, .tmp 15)]) (cells := [Value.bool (decide (cut n ≤ i))].toArray) rfl rfl rfl rfl rfl rfl (fillS_full 1 1 _ [Value.bool (decide (cut n ≤ i))] rfl (by simp [Value.cells]))) ?_
    intro b16
    refine Run.a (Val.of rfl) ?_
    refine Run.op rfl (OpTo.append tabOk (Own.row b16 1 1 [Value.bool (decide (cut n ≤ i))] [] rfl rfl (Nat.le_refl _) (by decide)) (Own.src hown (fun q hq => List.mem_cons_of_mem _ hq)) rfl rfl rfl rfl rfl rfl rfl rfl rfl (List.Perm.refl _) (fun u hu => by simp only [bls, List.mem_map] at hu; obtain ⟨b, _, rfl⟩ := hu; rfl) (by unfold maxLen; omega) (by simp only [ti4]; omega)) ?_
    rintro ⟨⟨v6, bl6⟩, hown6⟩
    refine Run.a (Val.of rfl) ?_
    refine Run.nil (RQ.next ?_)
    dsimp only at hown6 ⊢
    have hown7 : Own 4 1 v6 (decide (cut n ≤ i) :: ts).length (bls (decide (cut n ≤ i) :: ts)) bl6 := by
      have h9 := hown6
      rw [show 1 + ts.length = (decide (cut n ≤ i) :: ts).length by rw [List.length_cons]; omega] at h9
      exact h9
    (repeat refine RC.seq ?_); refine RC.region ?_
    refine Run.a (Val.of rfl) ?_
    refine Run.nil (RQ.next ?_)
    (repeat refine RC.seq ?_); refine RC.cond rfl (fun h => ?_) (fun h => ?_)
    · have hk := of_decide_eq_true h
      clear h
      have e9 := turnsN_right (n := n) (i := i) (by omega) hk
      refine RC.region ?_
      refine Run.a (Val.of rfl) ?_
      refine Run.a (Val.of rfl) ?_
      refine Run.a (Val.eq (Val.ar rfl rfl rfl rfl (by dsimp only [inK]; omega)) (show _ = Value.int .i64 ((i - cut n : Nat) : Int) from by congr 1; omega)) ?_
      refine Run.a (Val.of rfl) ?_
      refine Run.a (Val.of rfl) ?_
      refine Run.a (Val.eq (Val.ar rfl rfl rfl rfl (by dsimp only [inK]; omega)) (show _ = Value.int .i64 ((n - cut n : Nat) : Int) from by congr 1; omega)) ?_
      refine Run.a (Val.of rfl) ?_
      refine Run.a (Val.of rfl) ?_
      rw [decide_eq_true hk] at hown7
      exact Run.nil (RQ.blockNormal (RQ.up (j + 1) (i - cut n, n - cut n, true :: ts, v6, bl6) (Nat.lt_succ_self _) (by omega) ⟨by show i - cut n < n - cut n; omega, by show n - cut n + (j + 1) ≤ n0; omega, by rw [hT, e9, List.append_assoc]; rfl, hown7⟩ ⟨rfl, rfl, rfl, trivial⟩ (List.sublist_append_left _ _)))
    · have hk := of_decide_eq_false h
      clear h
      have e9 := turnsN_left (n := n) (i := i) (by omega) (by omega)
      refine RC.region ?_
      refine Run.a (Val.of rfl) ?_
      refine Run.a (Val.of rfl) ?_
      rw [decide_eq_false hk] at hown7
      exact Run.nil (RQ.blockNormal (RQ.up (j + 1) (i, cut n, false :: ts, v6, bl6) (Nat.lt_succ_self _) (by omega) ⟨by show i < cut n; omega, by show cut n + (j + 1) ≤ n0; omega, by rw [hT, e9, List.append_assoc]; rfl, hown7⟩ ⟨rfl, rfl, rfl, trivial⟩ (List.sublist_append_left _ _)))
  · have h1 := of_decide_eq_false h
    rw [turnsN_small (n := n) (by omega), List.nil_append] at hT
    (repeat refine RQ.thenExit ?_); refine RQ.blockHere ?_
    refine RQ.next ?_
    (repeat refine RC.seq ?_); refine RC.region ?_
    refine Run.a (Val.of rfl) ?_
    refine Run.a (Val.of rfl) ?_
    refine Run.nil (RQ.next ?_)
    refine RC.ret ?_; (repeat first | refine RQ.thenRet ?_ | refine RQ.blockRet ?_)
    rw [hT]
    exact RQ.ret1 rfl (Res.tmp rfl) fun w' hm => Makes.of (L' := []) hown (by simpa using hm)

set_option maxRecDepth 10000 in set_option maxHeartbeats 4000000 in
theorem Check_calls (root x : List Nat) (ps : List (List Nat)) (hr8 : root.length = 8) (hx8 : x.length = 8) (hxlt : ∀ b ∈ x, b < 256) (hH : HL ps) (zi zn : Int) (v : Value) (w : World) (hs : SrcW w 8 v ps.length (u8s ps.flatten)) (hps : ps.length ≤ 9223372036854775807) (hK : Laid w) :
    Gives Tryz.prog 28 [.agg (u8s root).toArray, .agg (u8s x).toArray, .int .i64 zi, .int .i64 zn, v] (.bool (checkM root x zi zn ps)) w := by
  obtain ⟨va, vc, rfl, hvc⟩ := hs.shape
  refine enter Tryz.func28 rfl (Mem.nil w []) rfl ?_
  (repeat refine RC.seq ?_); refine RC.region ?_
  refine Run.nw (New.boxA rfl rfl) ?_
  intro b5
  refine Run.nw (New.boxA rfl rfl) ?_
  intro b6
  refine Run.a (Val.of rfl) ?_
  refine Run.nil (RQ.next ?_)
  by_cases hN1 : zn < 1
  · rw [chk_bad (.inl hN1)]
    (repeat refine RC.seq ?_); refine RC.region ?_
    refine Run.a (Val.of rfl) ?_
    refine Run.a (Val.eq (Val.of rfl) (show _ = Value.bool true from congrArg Value.bool (decide_eq_true (by omega)))) ?_
    refine Run.a (Val.of rfl) ?_
    refine Run.sk ?_
    refine Run.sk ?_
    refine Run.a (Val.of rfl) ?_
    refine Run.a (Val.of rfl) ?_
    refine Run.sk ?_
    refine Run.sk ?_
    refine Run.a (Val.of rfl) ?_
    refine Run.a (Val.of rfl) ?_
    refine Run.sk ?_
    refine Run.sk ?_
    refine Run.sk ?_
    refine Run.a (Val.of rfl) ?_
    refine Run.nil (RQ.next ?_)
    (repeat refine RC.seq ?_); refine RC.condT rfl rfl ?_
    (repeat refine RC.seq ?_); refine RC.region ?_
    refine Run.a (Val.of rfl) ?_
    refine Run.nil (RQ.next ?_)
    refine RC.ret ?_; (repeat first | refine RQ.thenRet ?_ | refine RQ.blockRet ?_); exact RQ.ret1 rfl (Res.tmp rfl) fun w' hm => ⟨rfl, hm.fr⟩
  by_cases hN2 : 65536 < zn
  · rw [chk_bad (.inr (.inl hN2))]
    (repeat refine RC.seq ?_); refine RC.region ?_
    refine Run.a (Val.of rfl) ?_
    refine Run.a (Val.eq (Val.of rfl) (show _ = Value.bool false from congrArg Value.bool (decide_eq_false (by omega)))) ?_
    refine Run.a (Val.of rfl) ?_
    refine Run.a (Val.of rfl) ?_
    refine Run.a (Val.eq (Val.of rfl) (show _ = Value.bool true from congrArg Value.bool (decide_eq_true (by omega)))) ?_
    refine Run.a (Val.of rfl) ?_
    refine Run.a (Val.of rfl) ?_
    refine Run.sk ?_
    refine Run.sk ?_
    refine Run.a (Val.of rfl) ?_
    refine Run.a (Val.of rfl) ?_
    refine Run.sk ?_
    refine Run.sk ?_
    refine Run.sk ?_
    refine Run.a (Val.of rfl) ?_
    refine Run.nil (RQ.next ?_)
    (repeat refine RC.seq ?_); refine RC.condT rfl rfl ?_
    (repeat refine RC.seq ?_); refine RC.region ?_
    refine Run.a (Val.of rfl) ?_
    refine Run.nil (RQ.next ?_)
    refine RC.ret ?_; (repeat first | refine RQ.thenRet ?_ | refine RQ.blockRet ?_); exact RQ.ret1 rfl (Res.tmp rfl) fun w' hm => ⟨rfl, hm.fr⟩
  by_cases hI1 : zi < 0
  · rw [chk_bad (.inr (.inr (.inl hI1)))]
    (repeat refine RC.seq ?_); refine RC.region ?_
    refine Run.a (Val.of rfl) ?_
    refine Run.a (Val.eq (Val.of rfl) (show _ = Value.bool false from congrArg Value.bool (decide_eq_false (by omega)))) ?_
    refine Run.a (Val.of rfl) ?_
    refine Run.a (Val.of rfl) ?_
    refine Run.a (Val.eq (Val.of rfl) (show _ = Value.bool false from congrArg Value.bool (decide_eq_false (by omega)))) ?_
    refine Run.a (Val.of rfl) ?_
    refine Run.a (Val.of rfl) ?_
    refine Run.a (Val.of rfl) ?_
    refine Run.a (Val.eq (Val.of rfl) (show _ = Value.bool true from congrArg Value.bool (decide_eq_true (by omega)))) ?_
    refine Run.a (Val.of rfl) ?_
    refine Run.a (Val.of rfl) ?_
    refine Run.sk ?_
    refine Run.sk ?_
    refine Run.sk ?_
    refine Run.a (Val.of rfl) ?_
    refine Run.nil (RQ.next ?_)
    (repeat refine RC.seq ?_); refine RC.condT rfl rfl ?_
    (repeat refine RC.seq ?_); refine RC.region ?_
    refine Run.a (Val.of rfl) ?_
    refine Run.nil (RQ.next ?_)
    refine RC.ret ?_; (repeat first | refine RQ.thenRet ?_ | refine RQ.blockRet ?_); exact RQ.ret1 rfl (Res.tmp rfl) fun w' hm => ⟨rfl, hm.fr⟩
  by_cases hI2 : zn ≤ zi
  · rw [chk_bad (.inr (.inr (.inr hI2)))]
    (repeat refine RC.seq ?_); refine RC.region ?_
    refine Run.a (Val.of rfl) ?_
    refine Run.a (Val.eq (Val.of rfl) (show _ = Value.bool false from congrArg Value.bool (decide_eq_false (by omega)))) ?_
    refine Run.a (Val.of rfl) ?_
    refine Run.a (Val.of rfl) ?_
    refine Run.a (Val.eq (Val.of rfl) (show _ = Value.bool false from congrArg Value.bool (decide_eq_false (by omega)))) ?_
    refine Run.a (Val.of rfl) ?_
    refine Run.a (Val.of rfl) ?_
    refine Run.a (Val.of rfl) ?_
    refine Run.a (Val.eq (Val.of rfl) (show _ = Value.bool false from congrArg Value.bool (decide_eq_false (by omega)))) ?_
    refine Run.a (Val.of rfl) ?_
    refine Run.a (Val.of rfl) ?_
    refine Run.a (Val.of rfl) ?_
    refine Run.a (Val.of rfl) ?_
    refine Run.a (Val.eq (Val.of rfl) (show _ = Value.bool true from congrArg Value.bool (decide_eq_true (by omega)))) ?_
    refine Run.a (Val.of rfl) ?_
    refine Run.nil (RQ.next ?_)
    (repeat refine RC.seq ?_); refine RC.condT rfl rfl ?_
    (repeat refine RC.seq ?_); refine RC.region ?_
    refine Run.a (Val.of rfl) ?_
    refine Run.nil (RQ.next ?_)
    refine RC.ret ?_; (repeat first | refine RQ.thenRet ?_ | refine RQ.blockRet ?_); exact RQ.ret1 rfl (Res.tmp rfl) fun w' hm => ⟨rfl, hm.fr⟩
  obtain ⟨i, rfl⟩ := Int.eq_ofNat_of_zero_le (show 0 ≤ zi by omega)
  obtain ⟨m, rfl⟩ := Int.eq_ofNat_of_zero_le (show 0 ≤ zn by omega)
  rw [chk_good (root := root) (x := x) (ps := ps) (i := i) (n := m) (by omega) (by omega)]
  (repeat refine RC.seq ?_); refine RC.region ?_
  refine Run.a (Val.of rfl) ?_
  refine Run.a (Val.eq (Val.of rfl) (show _ = Value.bool false from congrArg Value.bool (decide_eq_false (by omega)))) ?_
  refine Run.a (Val.of rfl) ?_
  refine Run.a (Val.of rfl) ?_
  refine Run.a (Val.eq (Val.of rfl) (show _ = Value.bool false from congrArg Value.bool (decide_eq_false (by omega)))) ?_
  refine Run.a (Val.of rfl) ?_
  refine Run.a (Val.of rfl) ?_
  refine Run.a (Val.of rfl) ?_
  refine Run.a (Val.eq (Val.of rfl) (show _ = Value.bool false from congrArg Value.bool (decide_eq_false (by omega)))) ?_
  refine Run.a (Val.of rfl) ?_
  refine Run.a (Val.of rfl) ?_
  refine Run.a (Val.of rfl) ?_
  refine Run.a (Val.of rfl) ?_
  refine Run.a (Val.eq (Val.of rfl) (show _ = Value.bool false from congrArg Value.bool (decide_eq_false (by omega)))) ?_
  refine Run.a (Val.of rfl) ?_
  refine Run.nil (RQ.next ?_)
  (repeat refine RC.seq ?_); refine RC.condF rfl rfl (RC.skip (RQ.next ?_))
  have hmx := turnsN_le _ i m rfl
  (repeat refine RC.seq ?_); refine RC.region ?_
  refine Run.a (Val.of rfl) ?_
  refine Run.a (Val.of rfl) ?_
  refine Run.op rfl (OpTo.callMk Tryz.func57 rfl rfl rfl rfl rfl rfl (fun w' _ => turns_calls i m (by omega) (by omega) w')) ?_
  rintro ⟨⟨v11, bl11⟩, hown⟩
  dsimp only at hown ⊢
  refine Run.a (Val.of rfl) ?_
  refine Run.nil (RQ.next ?_)
  obtain ⟨ta, tc, htv, htc⟩ := hown.shape
  (repeat refine RC.seq ?_); refine RC.region ?_
  refine Run.a (Val.of rfl) ?_
  refine Run.a (Val.len (len := (turnsN i m).length) tabOk rfl rfl rfl (by rw [htv]; rfl)) ?_
  refine Run.a (Val.of rfl) ?_
  refine Run.a (Val.len (len := ps.length) tabOk rfl rfl rfl rfl) ?_
  refine Run.a (Val.eq (Val.of rfl) (show _ = Value.bool (decide ((turnsN i m).length ≠ ps.length)) from congrArg Value.bool (by rw [Bool.eq_iff_iff, bne_iff_ne, decide_eq_true_iff]; omega))) ?_
  refine Run.nil (RQ.next ?_)
  (repeat refine RC.seq ?_); refine RC.cond rfl (fun h => ?_) (fun h => ?_)
  · have h1 := of_decide_eq_true h
    rw [show leads root x i m ps = false by unfold leads; rw [decide_eq_false h1]; rfl]
    (repeat refine RC.seq ?_); refine RC.region ?_
    refine Run.a (Val.of rfl) ?_
    refine Run.nil (RQ.next ?_)
    refine RC.ret ?_; (repeat first | refine RQ.thenRet ?_ | refine RQ.blockRet ?_); exact RQ.ret1 rfl (Res.tmp rfl) fun w' hm => ⟨rfl, hm.fr⟩
  have hlen : (turnsN i m).length = ps.length := by have := of_decide_eq_false h; omega
  clear h
  rw [show leads root x i m ps = decide (upAll (leafN x) (turnsN i m) ps = root) by unfold leads; rw [decide_eq_true hlen]; rfl]
  have hlf : (leafN x).length = 8 := digest_len _ _
  have hlflt : ∀ b ∈ leafN x, b < 256 := digest_lt _ _
  refine RC.skip (RQ.next ?_)
  (repeat refine RC.seq ?_); refine RC.region ?_
  refine Run.a (Val.loadU tabOk rfl rfl rfl rfl (by repeat (first | exact List.mem_cons_self | apply List.mem_cons_of_mem | apply List.mem_append_right)) hx8) ?_
  refine Run.callV Tryz.func58 rfl rfl rfl rfl rfl rfl rfl (fun w' hm => leaf_calls x hx8 hxlt w' (hK.fr hm.fr (by simp))) ?_
  refine Run.nw (New.alloc tabOk rfl rfl) ?_
  intro b12
  refine Run.op1 (OpTo.setAll tabOk rfl rfl rfl rfl rfl (List.Perm.refl _) hlf rfl) (fun _ => ?_)
  refine Run.nil (RQ.next ?_)
  (repeat refine RC.seq ?_); refine RC.region ?_
  refine Run.a (Val.of rfl) ?_
  refine Run.a (Val.len (len := ps.length) tabOk rfl rfl rfl rfl) ?_
  refine Run.a (Val.of rfl) ?_
  refine Run.nil (RQ.next ?_)
  (repeat refine RC.seq ?_); refine RC.block ?_
  refine RC.up ps.length (D := Unit) (fun _ _ => True)
    (fun k _ => [(42, .int .i64 k), (41, .int .i64 ps.length), (40, .slice va ps.length vc), (11, v11), (12, .pointer (some ⟨b12, 0, none⟩)), (5, .pointer (some ⟨b5, 0, none⟩))])
    (fun k _ => (b12, .cells (u8s (upAll (leafN x) ((turnsN i m).take k) (ps.take k))).toArray 23 (0, 0)) :: (bl11 ++ [(b6, .cells (u8s x).toArray 23 (0, 0)), (b5, .cells (u8s root).toArray 23 (0, 0))]))
    0 () (Nat.zero_le _) trivial ⟨rfl, rfl, rfl, rfl, rfl, rfl, trivial⟩ (List.Sublist.refl _) ?_
  intro k _ hk _
  obtain ⟨u1, u2⟩ := upAll_8 ((turnsN i m).take k) (ps.take k) (leafN x) hlf hlflt
  (repeat refine RC.seq ?_); refine RC.region ?_
  refine Run.a (Val.of rfl) ?_
  refine Run.nil (RQ.next ?_)
  (repeat refine RC.seq ?_); refine RC.wh rfl (fun h => RQ.next ?_) (fun h => ?_)
  · have hk' : k < ps.length := by have := of_decide_eq_true h; omega
    clear h
    obtain ⟨p, hp⟩ : ∃ p, ps[k]? = some p := ⟨_, List.getElem?_eq_getElem hk'⟩
    obtain ⟨t, ht⟩ : ∃ t, (turnsN i m)[k]? = some t := ⟨_, List.getElem?_eq_getElem (by omega)⟩
    have hsucc := upAll_take_succ (leafN x) (turnsN i m) ps k t p ht hp
    have hp8 := hH p (List.mem_of_getElem? hp)
    have hpf := pc_flat hH hp
    obtain ⟨ad, c, hve, hc, hcl, hr⟩ := hs.pos (by omega)
    cases hve
    obtain ⟨bt, cap, rest, rfl, rfl, g1, g2, g3, g4⟩ := hown.pos (by omega)
    have hbt : ((bls (turnsN i m) ++ rest).toArray)[k]? = some (.bool t) := by
      rw [List.getElem?_toArray, List.getElem?_append_left (by rw [bls_len]; omega)]
      simp [bls, ht]
    generalize upAll (leafN x) ((turnsN i m).take k) (ps.take k) = cur at *
    generalize hnx : upAll (leafN x) ((turnsN i m).take (k + 1)) (ps.take (k + 1)) = nxt at *
    (repeat refine RC.seq ?_); refine RC.block ?_
    (repeat refine RC.seq ?_); refine RC.region ?_
    refine Run.a (Val.of rfl) ?_
    refine Run.a (Val.ixS tabOk k (ad' := ad.add (k * 8)) rfl rfl rfl rfl rfl rfl rfl hk' rfl) ?_
    refine Run.a (Val.loadOld tabOk (cs := u8s p) rfl rfl rfl rfl (by simp) (by rw [u8s_len, hp8.1]; rfl) (fun j u hj => by rw [add_add]; refine hr _ u ?_; have := pc_row (c := 8) (l := ps.flatten) k j u (by rw [hpf]; exact hj); rwa [List.getElem?_toArray] at this)) ?_
    refine Run.nw (New.alloc tabOk rfl rfl) ?_
    intro b14
    refine Run.a (Val.of rfl) ?_
    refine Run.op1 (OpTo.setAll tabOk rfl rfl rfl rfl rfl (List.Perm.refl _) hp8.1 rfl) (fun _ => ?_)
    refine Run.nil (RQ.next ?_)
    (repeat refine RC.seq ?_); refine RC.region ?_
    refine Run.a (Val.of rfl) ?_
    refine Run.a (Val.of rfl) ?_
    refine Run.a (Val.ixS tabOk k (ad' := ⟨bt, k, none⟩) rfl rfl rfl rfl rfl rfl rfl (by omega) (by rw [add_lit]; simp [ti4])) ?_
    refine Run.a (Val.load (v := .bool t) tabOk rfl rfl rfl (by repeat (first | exact List.mem_cons_self | apply List.mem_cons_of_mem | apply List.mem_append_right)) hbt) ?_
    refine Run.nil (RQ.next ?_)
    (repeat refine RC.seq ?_); refine RC.cond rfl (fun h => ?_) (fun h => ?_)
    · subst h
      have hn : nxt = joinN p cur := by rw [hsucc]; rfl
      refine RC.region ?_
      refine Run.a (Val.loadU tabOk rfl rfl rfl rfl (by repeat (first | exact List.mem_cons_self | apply List.mem_cons_of_mem | apply List.mem_append_right)) hp8.1) ?_
      refine Run.a (Val.loadU tabOk rfl rfl rfl rfl (by repeat (first | exact List.mem_cons_self | apply List.mem_cons_of_mem | apply List.mem_append_right)) u1) ?_
      refine Run.callV Tryz.func59 rfl rfl rfl rfl rfl rfl rfl (fun w' hm => join_calls p cur hp8.1 u1 hp8.2 u2 w' (hK.fr hm.fr (by simp))) ?_
      rw [← hn]
      refine Run.op1 (OpTo.setAll tabOk rfl rfl rfl rfl rfl p1 (by rw [hn]; exact joinN_len _ _) (by simp [u8s_len, u1]; rfl)) (fun _ => ?_)
      subst hnx
      refine Run.nil (RQ.blockNormal (RQ.next ?_))
      refine RC.region ?_
      repeat (first | refine Run.a Val.ra ?_ | refine Run.a (Val.of rfl) ?_)
      exact Run.nil (RQ.up (k + 1) () (Nat.lt_succ_self _) hk' trivial ⟨rfl, rfl, rfl, rfl, rfl, rfl, trivial⟩ (List.Sublist.cons_cons _ (List.Sublist.cons _ (List.Sublist.refl _))))
    · subst h
      have hn : nxt = joinN cur p := by rw [hsucc]; rfl
      refine RC.region ?_
      refine Run.a (Val.loadU tabOk rfl rfl rfl rfl (by repeat (first | exact List.mem_cons_self | apply List.mem_cons_of_mem | apply List.mem_append_right)) u1) ?_
      refine Run.a (Val.loadU tabOk rfl rfl rfl rfl (by repeat (first | exact List.mem_cons_self | apply List.mem_cons_of_mem | apply List.mem_append_right)) hp8.1) ?_
      refine Run.callV Tryz.func59 rfl rfl rfl rfl rfl rfl rfl (fun w' hm => join_calls cur p u1 hp8.1 u2 hp8.2 w' (hK.fr hm.fr (by simp))) ?_
      rw [← hn]
      refine Run.op1 (OpTo.setAll tabOk rfl rfl rfl rfl rfl p1 (by rw [hn]; exact joinN_len _ _) (by simp [u8s_len, u1]; rfl)) (fun _ => ?_)
      subst hnx
      refine Run.nil (RQ.blockNormal (RQ.next ?_))
      refine RC.region ?_
      repeat (first | refine Run.a Val.ra ?_ | refine Run.a (Val.of rfl) ?_)
      exact Run.nil (RQ.up (k + 1) () (Nat.lt_succ_self _) hk' trivial ⟨rfl, rfl, rfl, rfl, rfl, rfl, trivial⟩ (List.Sublist.cons_cons _ (List.Sublist.cons _ (List.Sublist.refl _))))
  · have hk' : k = ps.length := by have := of_decide_eq_false h; omega
    subst hk'
    rw [List.take_of_length_le (show (turnsN i m).length ≤ ps.length by omega), List.take_length] at u1 ⊢
    generalize upAll (leafN x) (turnsN i m) ps = cur at *
    (repeat refine RQ.thenExit ?_); refine RQ.blockHere ?_
    refine RQ.next ?_
    (repeat refine RC.seq ?_); refine RC.region ?_
    refine Run.a (Val.loadU tabOk rfl rfl rfl rfl (by repeat (first | exact List.mem_cons_self | apply List.mem_cons_of_mem | apply List.mem_append_right)) u1) ?_
    refine Run.a (Val.loadU tabOk rfl rfl rfl rfl (by repeat (first | exact List.mem_cons_self | apply List.mem_cons_of_mem | apply List.mem_append_right)) hr8) ?_
    refine Run.a (Val.eqU (m := 8) (a := cur) (b := root) tabOk rfl rfl rfl (by kernel_rfl) (by kernel_rfl) rfl rfl u1 hr8) ?_
    refine Run.a (Val.of rfl) ?_
    refine Run.nil (RQ.next ?_)
    refine RC.ret ?_; (repeat first | refine RQ.thenRet ?_ | refine RQ.blockRet ?_); exact RQ.ret1 rfl (Res.tmp rfl) fun w' hm => ⟨rfl, hm.fr⟩
end Go.Proofs.YtfoeakgnkfcbjaaGreatDoor

/- The reference's up, CheckRow. -/
namespace Go.Sha
end Go.Sha
namespace Go.Proofs.YtfoeakgnkfcbjaaGreatDoor
open Go Go.Vc Go.Sha

end Go.Proofs.YtfoeakgnkfcbjaaGreatDoor
end
section
/- lamport: bit, markH, public, Make, Sign, Public. -/
namespace Go.Sha
end Go.Sha
namespace Go.Proofs.YtfoeakgnkfcbjaaGreatDoor
open Go Go.Vc Go.Sha

end Go.Proofs.YtfoeakgnkfcbjaaGreatDoor

/- lamport: public, Public; the reference's Public. -/
namespace Go.Sha
end Go.Sha
namespace Go.Proofs.YtfoeakgnkfcbjaaGreatDoor
open Go Go.Vc Go.Sha

end Go.Proofs.YtfoeakgnkfcbjaaGreatDoor

/- lamport: a key's Public; Public; the reference's Public. -/
namespace Go.Sha
end Go.Sha
namespace Go.Proofs.YtfoeakgnkfcbjaaGreatDoor
open Go Go.Vc Go.Sha

end Go.Proofs.YtfoeakgnkfcbjaaGreatDoor
end
section
/- Trees of keys: plain, and how they lie in memory. -/
namespace Go.Sha
/-- A signature, as cells. -/
def sigC (z : Int) (op sh pa : List Nat) : List Go.Value := .int .i64 z :: (u8s op ++ (u8s sh ++ u8s pa))
theorem sigC_len {z : Int} {op sh pa : List Nat} (h1 : op.length = 128) (h2 : sh.length = 128) (h3 : pa.length = 24) : (sigC z op sh pa).length = 281 := by
  simp [sigC, u8s_len, h1, h2, h3]
theorem sigC_one {z : Int} {op sh pa : List Nat} : ∀ u ∈ sigC z op sh pa, u.oneCell' = true := by
  intro u hu
  rcases List.mem_cons.1 hu with rfl | hu
  · rfl
  · rw [← u8s_app, ← u8s_app] at hu
    exact u8s_one _ u hu
end Go.Sha
namespace Go.Vc
open Go Go.Sha
section
variable {P : Program} {n : Nat} {w0 : World} {S0 : List Nat} {Q : Exit → Act → World → Prop} {E : Env} {L : Hp} {o : Oper} {d : Nat} {T : List (Nat × TI)} {t : Nat} {ti : TI}
end
section
variable {P : Program} {n : Nat} {w0 : World} {S0 : List Nat} {Q : Exit → Act → World → Prop} {E : Env} {L : Hp} {o : Oper} {d : Nat}
end
end Go.Vc

/- keytree: New, Root, Sign. -/
namespace Go.Sha
open Go
end Go.Sha
namespace Go.Vc
open Go Go.Sha
end Go.Vc
namespace Go.Proofs.YtfoeakgnkfcbjaaGreatDoor
open Go Go.Vc Go.Sha

end Go.Proofs.YtfoeakgnkfcbjaaGreatDoor

/- The reference's SignTree, CheckTree; keytree.Check, Times. -/
namespace Go.Proofs.YtfoeakgnkfcbjaaGreatDoor
open Go Go.Vc Go.Sha

end Go.Proofs.YtfoeakgnkfcbjaaGreatDoor
end
section
/- keytree's awake; KeytreeSigns. -/
namespace Go.Sha
def h8 (k : Nat) : List Nat := [k, 0, 0, 0, 0, 0, 0, 0]
end Go.Sha
namespace Go.Proofs.YtfoeakgnkfcbjaaGreatDoor
open Go Go.Vc Go.Sha

end Go.Proofs.YtfoeakgnkfcbjaaGreatDoor
end
section
/- KeytreeChecks. -/
namespace Go.Sha
end Go.Sha
namespace Go.Proofs.YtfoeakgnkfcbjaaGreatDoor
open Go Go.Vc Go.Sha

end Go.Proofs.YtfoeakgnkfcbjaaGreatDoor
end
