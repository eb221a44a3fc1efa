/- MerkleParts. -/
import Derived.Test.YtnkogpfmfmjhoaaDoorMer4
namespace Go.Sha
theorem mprove_first {l : List (List Nat)} (h : 2 ≤ l.length) : (mprove l 0)[(mprove l 0).length - 1]? = some (mroot (l.drop (cut l.length))) ∧ 0 < (mprove l 0).length := by
  rw [mprove_left h (cut_pos _)]
  simp
theorem mprove_last {l : List (List Nat)} (h : 2 ≤ l.length) : (mprove l (l.length - 1))[(mprove l (l.length - 1)).length - 1]? = some (mroot (l.take (cut l.length))) ∧ 0 < (mprove l (l.length - 1)).length := by
  have := cut_lt h
  rw [mprove_right h (by omega)]
  simp
end Go.Sha
namespace Go.Proofs.YtnkogpfmfmjhoaaDoor
open Go Go.Vc Go.Sha

theorem MerkleParts_calls (l : List (List Nat)) (hH : HL l) (hll : l.length ≤ 9223372036854775807) (v : Value) (w : World) (hs : SrcW w 8 v l.length (u8s l.flatten)) (hK : Laid w) :
    Gives Tryd.prog 11 [v] (.bool true) w := by
  refine enter Tryd.func11 rfl (Mem.nil w []) rfl ?_
  obtain ⟨va, vc, hv, hvc⟩ := hs.shape
  (repeat refine RC.seq ?_); refine RC.region ?_
  refine Run.v rfl rfl rfl (Val.of rfl) ?_
  refine Run.nil (RQ.next ?_)
  (repeat refine RC.seq ?_); refine RC.region ?_
  refine Run.callV Tryd.func21 rfl rfl rfl rfl rfl rfl rfl (fun w' hm => mer_awake_calls w' (hK.fr hm.fr (by simp))) ?_
  refine Run.v rfl rfl rfl (Val.of rfl) ?_
  refine Run.nil (RQ.next ?_)
  (repeat refine RC.seq ?_); refine RC.condF rfl rfl (RC.skip (RQ.next ?_))
  (repeat refine RC.seq ?_); refine RC.region ?_
  refine Run.v rfl rfl rfl (Val.of rfl) ?_
  refine Run.v rfl rfl rfl (Val.len (len := l.length) tabOk rfl rfl rfl (by rw [hv]; rfl)) ?_
  refine Run.v rfl rfl rfl (Val.eq (Val.of rfl) (show _ = Value.bool (decide (l.length < 2)) from congrArg Value.bool (by rw [decide_eq_decide]; omega))) ?_
  by_cases h2 : l.length < 2
  · rw [decide_eq_true h2]
    refine Run.v rfl rfl rfl (Val.of rfl) ?_
    refine Run.skipG (Wanted.guard rfl rfl rfl rfl) rfl rfl ?_
    refine Run.skipG (Wanted.guard rfl rfl rfl rfl) rfl rfl ?_
    refine Run.skipG (Wanted.guard rfl rfl rfl rfl) rfl rfl ?_
    refine Run.v rfl rfl rfl (Val.of rfl) ?_
    refine Run.nil (RQ.next ?_)
    (repeat refine RC.seq ?_); refine RC.condT rfl rfl ?_
    (repeat refine RC.seq ?_); refine RC.region ?_
    refine Run.v rfl rfl rfl (Val.of rfl) ?_
    refine Run.nil (RQ.next ?_)
    refine RC.ret ?_; (repeat first | refine RQ.thenRet ?_ | refine RQ.blockRet ?_); exact RQ.ret1 rfl (Res.tmp rfl) fun w' hm => ⟨rfl, hm.fr⟩
  rw [decide_eq_false h2]
  refine Run.v rfl rfl rfl (Val.of rfl) ?_
  refine Run.vG (Wanted.guard rfl rfl rfl rfl) rfl rfl (Val.of rfl) ?_
  refine Run.vG (Wanted.guard rfl rfl rfl rfl) rfl rfl (Val.len (len := l.length) tabOk rfl rfl rfl (by rw [hv]; rfl)) ?_
  refine Run.vG (Wanted.guard rfl rfl rfl rfl) rfl rfl (Val.eq (Val.of rfl) (show _ = Value.bool (decide (200 < l.length)) from congrArg Value.bool (by rw [decide_eq_decide]; omega))) ?_
  refine Run.v rfl rfl rfl (Val.of rfl) ?_
  refine Run.nil (RQ.next ?_)
  (repeat refine RC.seq ?_); refine RC.cond rfl (fun h => ?_) (fun h => ?_)
  · (repeat refine RC.seq ?_); refine RC.region ?_
    refine Run.v rfl rfl rfl (Val.of rfl) ?_
    refine Run.nil (RQ.next ?_)
    refine RC.ret ?_; (repeat first | refine RQ.thenRet ?_ | refine RQ.blockRet ?_); exact RQ.ret1 rfl (Res.tmp rfl) fun w' hm => ⟨rfl, hm.fr⟩
  have h200 := of_decide_eq_false h
  clear h
  refine RC.skip (RQ.next ?_)
  (repeat refine RC.seq ?_); refine RC.region ?_
  refine Run.v rfl rfl rfl (Val.of rfl) ?_
  refine Run.nil (RQ.next ?_)
  (repeat refine RC.seq ?_); refine RC.block ?_
  refine RC.up 17 (D := Unit) (fun j _ => 2 ^ j < l.length) (fun j _ => [(3, .int .i64 (2 ^ j : Nat)), (0, v)]) (fun j _ => []) 0 () (Nat.zero_le _) (by show 1 < l.length; omega) ⟨rfl, rfl, trivial⟩ (List.Sublist.refl _) ?_
  intro j _ hj hlt
  have hp : 2 ^ (j + 1) = 2 * 2 ^ j := by rw [Nat.pow_succ, Nat.mul_comm]
  have hj16 : j < 17 := by
    rcases Nat.lt_or_ge j 17 with h | h
    · exact h
    · have : 2 ^ 17 ≤ 2 ^ j := Nat.pow_le_pow_right (by decide) h
      have e : (2 : Nat) ^ 17 = 131072 := rfl
      omega
  have hce := cut_eq (n := l.length) (j := j) hlt
  generalize hq : 2 ^ j = q at *
  (repeat refine RC.seq ?_); refine RC.region ?_
  refine Run.v rfl rfl rfl (Val.of rfl) ?_
  refine Run.v rfl rfl rfl (Val.eq (Val.ar rfl rfl rfl rfl (by dsimp only [inK]; omega)) (show _ = Value.int .i64 ((2 * q : Nat) : Int) from by congr 1)) ?_
  refine Run.v rfl rfl rfl (Val.of rfl) ?_
  refine Run.v rfl rfl rfl (Val.len (len := l.length) tabOk rfl rfl rfl (by rw [hv]; rfl)) ?_
  refine Run.v rfl rfl rfl (Val.eq (Val.of rfl) (show _ = Value.bool (decide (2 * q < l.length)) from congrArg Value.bool (by rw [decide_eq_decide]; omega))) ?_
  refine Run.nil (RQ.next ?_)
  (repeat refine RC.seq ?_); refine RC.wh rfl (fun h => RQ.next ?_) (fun h => ?_)
  · have h1 := of_decide_eq_true h
    (repeat refine RC.seq ?_); refine RC.block ?_
    refine RC.region ?_
    refine Run.v rfl rfl rfl (Val.of rfl) ?_
    refine Run.v rfl rfl rfl (Val.eq (Val.ar rfl rfl rfl rfl (by dsimp only [inK]; omega)) (show _ = Value.int .i64 ((2 ^ (j + 1) : Nat) : Int) from by rw [hp]; congr 1)) ?_
    refine Run.v rfl rfl rfl (Val.of rfl) ?_
    exact Run.nil (RQ.blockNormal (RQ.up (j + 1) () (Nat.lt_succ_self _) hj16 (by rw [hp]; exact h1) ⟨rfl, rfl, trivial⟩ (List.Sublist.refl _)))
  have h1 := of_decide_eq_false h
  clear h
  have hce := hce (by omega)
  subst hce
  (repeat refine RQ.thenExit ?_); refine RQ.blockHere ?_
  refine RQ.next ?_
  have hkl := cut_lt (n := l.length) (by omega)
  have hkp := cut_pos l.length
  have hrc := rootOf_cut (l := l) (by omega) (by omega)
  clear hv hvc
  obtain ⟨ad, c, rfl, hc, hcl, hr⟩ := hs.pos (by omega)
  obtain ⟨x, hx⟩ : ∃ x, l[0]? = some x := ⟨_, List.getElem?_eq_getElem (by omega)⟩
  have hx8 := hH x (List.mem_of_getElem? hx)
  have hpf := pc_flat hH hx
  have hload : ∀ j u, (u8s x)[j]? = some u → w.cell? (ad.add j) = some u := fun j u hj => by
    refine hr _ u ?_
    have := pc_row (c := 8) (l := l.flatten) 0 j u (by rw [hpf]; exact hj)
    rw [List.getElem?_toArray, Nat.zero_mul, Nat.zero_add] at this
    exact this
  have ht : SrcW w 8 (.slice (some ad) (cut l.length) c) (l.take (cut l.length)).length (u8s (l.take (cut l.length)).flatten) := by
    rw [List.length_take, Nat.min_eq_left (by omega), flatten_take _ hH, u8s_take]
    exact SrcW.takeN hcl hr (by omega) hc
  have hdp : SrcW w 8 (.slice (some (ad.add (cut l.length * 8))) (l.length - cut l.length) (c - cut l.length)) (l.drop (cut l.length)).length (u8s (l.drop (cut l.length)).flatten) := by
    rw [List.length_drop, flatten_drop _ hH, u8s_drop]
    exact SrcW.dropN hcl hr hc
  have hone : SrcW w 8 (.slice (some ad) 1 c) ([x] : List (List Nat)).length (u8s ([x] : List (List Nat)).flatten) := by
    have e : ([x] : List (List Nat)) = l.take 1 := by
      match l, hx with
      | y :: _, hx => cases hx; rfl
    rw [e, flatten_take _ hH, u8s_take, List.length_take, Nat.min_eq_left (by omega)]
    exact SrcW.takeN hcl hr (by omega) hc
  have hRa := Root_calls _ (l.take (cut l.length)) rfl (hH.take _)
  have hRb := Root_calls _ (l.drop (cut l.length)) rfl (hH.drop _)
  have hRl := Root_calls _ l rfl hH
  have hR1 := Root_calls _ [x] rfl (by intro h hh; rw [List.mem_singleton] at hh; subst hh; exact hx8)
  have e1 : rootOf [x] = leafN x := by rw [rootOf_small (by simp), mroot_one]
  rw [e1] at hR1
  have rla := rootOf_len (l.take (cut l.length))
  have rlb := rootOf_len (l.drop (cut l.length))
  have rll := rootOf_len l
  have rl1 : (leafN x).length = 8 := digest_len _ _
  have sla := rootOf_lt (l.take (cut l.length))
  have slb := rootOf_lt (l.drop (cut l.length))
  have ea : rootOf (l.take (cut l.length)) = mroot (l.take (cut l.length)) := rootOf_small (by rw [List.length_take]; omega)
  have eb : rootOf (l.drop (cut l.length)) = mroot (l.drop (cut l.length)) := rootOf_small (by rw [List.length_drop]; omega)
  obtain ⟨p1', p2'⟩ := mprove_first (l := l) (by omega)
  obtain ⟨q1', q2'⟩ := mprove_last (l := l) (by omega)
  obtain ⟨f1, f2⟩ := prov_good (l := l) (i := 0) (by omega) (by omega)
  obtain ⟨g1, g2⟩ := prov_good (l := l) (i := l.length - 1) (by omega) (by omega)
  have hP := Prove_calls _ l rfl hH ((0 : Nat) : Int)
  have hQ := Prove_calls _ l rfl hH ((l.length - 1 : Nat) : Int)
  have hpH := provN_HL l ((0 : Nat) : Int)
  have hqH := provN_HL l ((l.length - 1 : Nat) : Int)
  have hpl := provN_le l ((0 : Nat) : Int)
  have hql := provN_le l ((l.length - 1 : Nat) : Int)
  rw [f1, f2] at hP
  rw [g1, g2] at hQ
  rw [f1] at hpH hpl
  rw [g1] at hqH hql
  rw [← eb] at p1'
  rw [← ea] at q1'
  have hrc' : digest 109 [rootOf (l.take (cut l.length)), rootOf (l.drop (cut l.length))] = rootOf l := hrc
  generalize rootOf (l.take (cut l.length)) = ra at *
  generalize rootOf (l.drop (cut l.length)) = rb at *
  generalize rootOf l = rl at *
  generalize mprove l 0 = pp at *
  generalize mprove l (l.length - 1) = qq at *
  (repeat refine RC.seq ?_)
  refine RC.thenCut (Y := Nat × Nat) (fun y => [(4, .pointer (some ⟨y.1, 0, none⟩)), (5, .pointer (some ⟨y.2, 0, none⟩)), (3, .int .i64 (cut l.length)), (0, .slice (some ad) l.length c)])
    (fun y => [(y.2, .cells (u8s rb).toArray 23 (0, 0)), (y.1, .cells (u8s ra).toArray 23 (0, 0))]) ?_ (fun y => ?_)
  · (repeat refine RC.seq ?_); refine RC.drawS mixed (N := 12) rfl ?_
    refine DR.take 0 rfl (by repeat (first | exact List.nil_sublist _ | exact List.Sublist.refl _ | apply List.Sublist.cons_cons | apply List.Sublist.cons)) inferInstance (by kernel_rfl) (by kernel_rfl) (by kernel_rfl) (by kernel_rfl) rfl rfl (Wanted.plain rfl) (Val.of rfl) ?_
    refine DR.take 1 rfl (by repeat (first | exact List.nil_sublist _ | exact List.Sublist.refl _ | apply List.Sublist.cons_cons | apply List.Sublist.cons)) inferInstance (by kernel_rfl) (by kernel_rfl) (by kernel_rfl) (by kernel_rfl) rfl rfl (Wanted.plain rfl) (Val.of rfl) ?_
    refine DR.take 2 rfl (by repeat (first | exact List.nil_sublist _ | exact List.Sublist.refl _ | apply List.Sublist.cons_cons | apply List.Sublist.cons)) inferInstance (by kernel_rfl) (by kernel_rfl) (by kernel_rfl) (by kernel_rfl) rfl rfl (Wanted.plain rfl) (Val.eq (Val.sliceS' tabOk 0 (cut l.length) rfl rfl rfl rfl rfl (.inl ⟨rfl, rfl⟩) (.inr ⟨_, rfl, rfl⟩) (by omega) (by omega) (by omega) rfl) (show _ = Value.slice (some ad) (cut l.length) c from by rw [Nat.zero_mul, add_zero_, Nat.sub_zero, Nat.sub_zero])) ?_
    refine DR.take 4 rfl (by repeat (first | exact List.nil_sublist _ | exact List.Sublist.refl _ | apply List.Sublist.cons_cons | apply List.Sublist.cons)) inferInstance (by kernel_rfl) (by kernel_rfl) (by kernel_rfl) (by kernel_rfl) rfl rfl (Wanted.plain rfl) (Val.of rfl) ?_
    refine DR.take 5 rfl (by repeat (first | exact List.nil_sublist _ | exact List.Sublist.refl _ | apply List.Sublist.cons_cons | apply List.Sublist.cons)) inferInstance (by kernel_rfl) (by kernel_rfl) (by kernel_rfl) (by kernel_rfl) rfl rfl (Wanted.plain rfl) (Val.of rfl) ?_
    refine DR.take 6 rfl (by repeat (first | exact List.nil_sublist _ | exact List.Sublist.refl _ | apply List.Sublist.cons_cons | apply List.Sublist.cons)) inferInstance (by kernel_rfl) (by kernel_rfl) (by kernel_rfl) (by kernel_rfl) rfl rfl (Wanted.plain rfl) (Val.sliceS' tabOk (cut l.length) l.length rfl rfl rfl rfl rfl (.inr ⟨_, rfl, rfl⟩) (.inl ⟨rfl, rfl⟩) (by omega) (by omega) (by omega) rfl) ?_
    refine DR.three (i := 3) (j := 8) (k := 9) (by kernel_rfl) ?_ ?_ ?_
    · refine DOp.op rfl (Wanted.plain rfl) (OpTo.callV Tryd.func24 rfl rfl rfl rfl rfl rfl (fun w' hm => hRa _ w' (ht.mem hm) (hK.fr hm.fr (by simp)))) (.inl fun _ => (by repeat (first | exact List.nil_sublist _ | exact List.Sublist.refl _ | apply List.Sublist.cons_cons | apply List.Sublist.cons))) (fun _ => ?_)
      refine DR.three (i := 7) (j := 8) (k := 9) (by kernel_rfl) ?_ ?_ ?_
      · refine DOp.op rfl (Wanted.plain rfl) (OpTo.callV Tryd.func24 rfl rfl rfl rfl rfl rfl (fun w' hm => hRb _ w' (hdp.mem hm) (hK.fr hm.fr (by simp)))) (.inl fun _ => (by repeat (first | exact List.nil_sublist _ | exact List.Sublist.refl _ | apply List.Sublist.cons_cons | apply List.Sublist.cons))) (fun _ => ?_)
        refine DR.two (i := 8) (j := 9) (by kernel_rfl) ?_ ?_
        · refine DOp.op rfl (Wanted.plain rfl) (OpTo.new rfl rfl (New.alloc tabOk rfl rfl)) (.inl fun _ => by repeat (first | exact List.nil_sublist _ | exact List.Sublist.refl _ | apply List.Sublist.cons_cons | apply List.Sublist.cons)) ?_
          intro b4
          refine DR.one (i := 9) (by kernel_rfl) ?_
          refine DOp.op rfl (Wanted.plain rfl) (OpTo.new rfl rfl (New.alloc tabOk rfl rfl)) (.inl fun _ => by repeat (first | exact List.nil_sublist _ | exact List.Sublist.refl _ | apply List.Sublist.cons_cons | apply List.Sublist.cons)) ?_
          intro b5
          refine DR.one (i := 10) (by kernel_rfl) ?_
          refine DOp.op rfl (Wanted.plain rfl) (OpTo.setAll tabOk rfl rfl rfl rfl rfl p1 rla rfl) (.inl fun _ => (by repeat (first | exact List.nil_sublist _ | exact List.Sublist.refl _ | apply List.Sublist.cons_cons | apply List.Sublist.cons))) (fun _ => ?_)
          refine DR.one (i := 11) (by kernel_rfl) ?_
          refine DOp.op rfl (Wanted.plain rfl) (OpTo.setAll tabOk rfl rfl rfl rfl rfl p1 rlb rfl) (.inr (by kernel_rfl)) (fun _ => ?_)
          refine DR.done (by kernel_rfl) ?_
          exact RQ.to (b4, b5) ⟨rfl, rfl, rfl, rfl, trivial⟩ (List.Sublist.refl _)
        · refine DOp.op rfl (Wanted.plain rfl) (OpTo.new rfl rfl (New.alloc tabOk rfl rfl)) (.inl fun _ => by repeat (first | exact List.nil_sublist _ | exact List.Sublist.refl _ | apply List.Sublist.cons_cons | apply List.Sublist.cons)) ?_
          intro b5
          refine DR.one (i := 8) (by kernel_rfl) ?_
          refine DOp.op rfl (Wanted.plain rfl) (OpTo.new rfl rfl (New.alloc tabOk rfl rfl)) (.inl fun _ => by repeat (first | exact List.nil_sublist _ | exact List.Sublist.refl _ | apply List.Sublist.cons_cons | apply List.Sublist.cons)) ?_
          intro b4
          refine DR.one (i := 10) (by kernel_rfl) ?_
          refine DOp.op rfl (Wanted.plain rfl) (OpTo.setAll tabOk rfl rfl rfl rfl rfl (List.Perm.refl _) rla rfl) (.inl fun _ => (by repeat (first | exact List.nil_sublist _ | exact List.Sublist.refl _ | apply List.Sublist.cons_cons | apply List.Sublist.cons))) (fun _ => ?_)
          refine DR.one (i := 11) (by kernel_rfl) ?_
          refine DOp.op rfl (Wanted.plain rfl) (OpTo.setAll tabOk rfl rfl rfl rfl rfl p1 rlb rfl) (.inr (by kernel_rfl)) (fun _ => ?_)
          refine DR.done (by kernel_rfl) ?_
          exact RQ.to (b4, b5) ⟨rfl, rfl, rfl, rfl, trivial⟩ (List.Sublist.refl _)
      · refine DOp.op rfl (Wanted.plain rfl) (OpTo.new rfl rfl (New.alloc tabOk rfl rfl)) (.inl fun _ => by repeat (first | exact List.nil_sublist _ | exact List.Sublist.refl _ | apply List.Sublist.cons_cons | apply List.Sublist.cons)) ?_
        intro b4
        refine DR.two (i := 7) (j := 9) (by kernel_rfl) ?_ ?_
        · refine DOp.op rfl (Wanted.plain rfl) (OpTo.callV Tryd.func24 rfl rfl rfl rfl rfl rfl (fun w' hm => hRb _ w' (hdp.mem hm) (hK.fr hm.fr (by simp)))) (.inl fun _ => (by repeat (first | exact List.nil_sublist _ | exact List.Sublist.refl _ | apply List.Sublist.cons_cons | apply List.Sublist.cons))) (fun _ => ?_)
          refine DR.one (i := 9) (by kernel_rfl) ?_
          refine DOp.op rfl (Wanted.plain rfl) (OpTo.new rfl rfl (New.alloc tabOk rfl rfl)) (.inl fun _ => by repeat (first | exact List.nil_sublist _ | exact List.Sublist.refl _ | apply List.Sublist.cons_cons | apply List.Sublist.cons)) ?_
          intro b5
          refine DR.one (i := 10) (by kernel_rfl) ?_
          refine DOp.op rfl (Wanted.plain rfl) (OpTo.setAll tabOk rfl rfl rfl rfl rfl p1 rla rfl) (.inl fun _ => (by repeat (first | exact List.nil_sublist _ | exact List.Sublist.refl _ | apply List.Sublist.cons_cons | apply List.Sublist.cons))) (fun _ => ?_)
          refine DR.one (i := 11) (by kernel_rfl) ?_
          refine DOp.op rfl (Wanted.plain rfl) (OpTo.setAll tabOk rfl rfl rfl rfl rfl p1 rlb rfl) (.inr (by kernel_rfl)) (fun _ => ?_)
          refine DR.done (by kernel_rfl) ?_
          exact RQ.to (b4, b5) ⟨rfl, rfl, rfl, rfl, trivial⟩ (List.Sublist.refl _)
        · refine DOp.op rfl (Wanted.plain rfl) (OpTo.new rfl rfl (New.alloc tabOk rfl rfl)) (.inl fun _ => by repeat (first | exact List.nil_sublist _ | exact List.Sublist.refl _ | apply List.Sublist.cons_cons | apply List.Sublist.cons)) ?_
          intro b5
          refine DR.one (i := 7) (by kernel_rfl) ?_
          refine DOp.op rfl (Wanted.plain rfl) (OpTo.callV Tryd.func24 rfl rfl rfl rfl rfl rfl (fun w' hm => hRb _ w' (hdp.mem hm) (hK.fr hm.fr (by simp)))) (.inl fun _ => (by repeat (first | exact List.nil_sublist _ | exact List.Sublist.refl _ | apply List.Sublist.cons_cons | apply List.Sublist.cons))) (fun _ => ?_)
          refine DR.one (i := 10) (by kernel_rfl) ?_
          refine DOp.op rfl (Wanted.plain rfl) (OpTo.setAll tabOk rfl rfl rfl rfl rfl p1 rla rfl) (.inl fun _ => (by repeat (first | exact List.nil_sublist _ | exact List.Sublist.refl _ | apply List.Sublist.cons_cons | apply List.Sublist.cons))) (fun _ => ?_)
          refine DR.one (i := 11) (by kernel_rfl) ?_
          refine DOp.op rfl (Wanted.plain rfl) (OpTo.setAll tabOk rfl rfl rfl rfl rfl p1 rlb rfl) (.inr (by kernel_rfl)) (fun _ => ?_)
          refine DR.done (by kernel_rfl) ?_
          exact RQ.to (b4, b5) ⟨rfl, rfl, rfl, rfl, trivial⟩ (List.Sublist.refl _)
      · refine DOp.op rfl (Wanted.plain rfl) (OpTo.new rfl rfl (New.alloc tabOk rfl rfl)) (.inl fun _ => by repeat (first | exact List.nil_sublist _ | exact List.Sublist.refl _ | apply List.Sublist.cons_cons | apply List.Sublist.cons)) ?_
        intro b5
        refine DR.two (i := 7) (j := 8) (by kernel_rfl) ?_ ?_
        · refine DOp.op rfl (Wanted.plain rfl) (OpTo.callV Tryd.func24 rfl rfl rfl rfl rfl rfl (fun w' hm => hRb _ w' (hdp.mem hm) (hK.fr hm.fr (by simp)))) (.inl fun _ => (by repeat (first | exact List.nil_sublist _ | exact List.Sublist.refl _ | apply List.Sublist.cons_cons | apply List.Sublist.cons))) (fun _ => ?_)
          refine DR.one (i := 8) (by kernel_rfl) ?_
          refine DOp.op rfl (Wanted.plain rfl) (OpTo.new rfl rfl (New.alloc tabOk rfl rfl)) (.inl fun _ => by repeat (first | exact List.nil_sublist _ | exact List.Sublist.refl _ | apply List.Sublist.cons_cons | apply List.Sublist.cons)) ?_
          intro b4
          refine DR.one (i := 10) (by kernel_rfl) ?_
          refine DOp.op rfl (Wanted.plain rfl) (OpTo.setAll tabOk rfl rfl rfl rfl rfl (List.Perm.refl _) rla rfl) (.inl fun _ => (by repeat (first | exact List.nil_sublist _ | exact List.Sublist.refl _ | apply List.Sublist.cons_cons | apply List.Sublist.cons))) (fun _ => ?_)
          refine DR.one (i := 11) (by kernel_rfl) ?_
          refine DOp.op rfl (Wanted.plain rfl) (OpTo.setAll tabOk rfl rfl rfl rfl rfl p1 rlb rfl) (.inr (by kernel_rfl)) (fun _ => ?_)
          refine DR.done (by kernel_rfl) ?_
          exact RQ.to (b4, b5) ⟨rfl, rfl, rfl, rfl, trivial⟩ (List.Sublist.refl _)
        · refine DOp.op rfl (Wanted.plain rfl) (OpTo.new rfl rfl (New.alloc tabOk rfl rfl)) (.inl fun _ => by repeat (first | exact List.nil_sublist _ | exact List.Sublist.refl _ | apply List.Sublist.cons_cons | apply List.Sublist.cons)) ?_
          intro b4
          refine DR.one (i := 7) (by kernel_rfl) ?_
          refine DOp.op rfl (Wanted.plain rfl) (OpTo.callV Tryd.func24 rfl rfl rfl rfl rfl rfl (fun w' hm => hRb _ w' (hdp.mem hm) (hK.fr hm.fr (by simp)))) (.inl fun _ => (by repeat (first | exact List.nil_sublist _ | exact List.Sublist.refl _ | apply List.Sublist.cons_cons | apply List.Sublist.cons))) (fun _ => ?_)
          refine DR.one (i := 10) (by kernel_rfl) ?_
          refine DOp.op rfl (Wanted.plain rfl) (OpTo.setAll tabOk rfl rfl rfl rfl rfl (List.Perm.refl _) rla rfl) (.inl fun _ => (by repeat (first | exact List.nil_sublist _ | exact List.Sublist.refl _ | apply List.Sublist.cons_cons | apply List.Sublist.cons))) (fun _ => ?_)
          refine DR.one (i := 11) (by kernel_rfl) ?_
          refine DOp.op rfl (Wanted.plain rfl) (OpTo.setAll tabOk rfl rfl rfl rfl rfl p1 rlb rfl) (.inr (by kernel_rfl)) (fun _ => ?_)
          refine DR.done (by kernel_rfl) ?_
          exact RQ.to (b4, b5) ⟨rfl, rfl, rfl, rfl, trivial⟩ (List.Sublist.refl _)
    · refine DOp.op rfl (Wanted.plain rfl) (OpTo.new rfl rfl (New.alloc tabOk rfl rfl)) (.inl fun _ => by repeat (first | exact List.nil_sublist _ | exact List.Sublist.refl _ | apply List.Sublist.cons_cons | apply List.Sublist.cons)) ?_
      intro b4
      refine DR.two (i := 3) (j := 9) (by kernel_rfl) ?_ ?_
      · refine DOp.op rfl (Wanted.plain rfl) (OpTo.callV Tryd.func24 rfl rfl rfl rfl rfl rfl (fun w' hm => hRa _ w' (ht.mem hm) (hK.fr hm.fr (by simp)))) (.inl fun _ => (by repeat (first | exact List.nil_sublist _ | exact List.Sublist.refl _ | apply List.Sublist.cons_cons | apply List.Sublist.cons))) (fun _ => ?_)
        refine DR.two (i := 7) (j := 9) (by kernel_rfl) ?_ ?_
        · refine DOp.op rfl (Wanted.plain rfl) (OpTo.callV Tryd.func24 rfl rfl rfl rfl rfl rfl (fun w' hm => hRb _ w' (hdp.mem hm) (hK.fr hm.fr (by simp)))) (.inl fun _ => (by repeat (first | exact List.nil_sublist _ | exact List.Sublist.refl _ | apply List.Sublist.cons_cons | apply List.Sublist.cons))) (fun _ => ?_)
          refine DR.one (i := 9) (by kernel_rfl) ?_
          refine DOp.op rfl (Wanted.plain rfl) (OpTo.new rfl rfl (New.alloc tabOk rfl rfl)) (.inl fun _ => by repeat (first | exact List.nil_sublist _ | exact List.Sublist.refl _ | apply List.Sublist.cons_cons | apply List.Sublist.cons)) ?_
          intro b5
          refine DR.one (i := 10) (by kernel_rfl) ?_
          refine DOp.op rfl (Wanted.plain rfl) (OpTo.setAll tabOk rfl rfl rfl rfl rfl p1 rla rfl) (.inl fun _ => (by repeat (first | exact List.nil_sublist _ | exact List.Sublist.refl _ | apply List.Sublist.cons_cons | apply List.Sublist.cons))) (fun _ => ?_)
          refine DR.one (i := 11) (by kernel_rfl) ?_
          refine DOp.op rfl (Wanted.plain rfl) (OpTo.setAll tabOk rfl rfl rfl rfl rfl p1 rlb rfl) (.inr (by kernel_rfl)) (fun _ => ?_)
          refine DR.done (by kernel_rfl) ?_
          exact RQ.to (b4, b5) ⟨rfl, rfl, rfl, rfl, trivial⟩ (List.Sublist.refl _)
        · refine DOp.op rfl (Wanted.plain rfl) (OpTo.new rfl rfl (New.alloc tabOk rfl rfl)) (.inl fun _ => by repeat (first | exact List.nil_sublist _ | exact List.Sublist.refl _ | apply List.Sublist.cons_cons | apply List.Sublist.cons)) ?_
          intro b5
          refine DR.one (i := 7) (by kernel_rfl) ?_
          refine DOp.op rfl (Wanted.plain rfl) (OpTo.callV Tryd.func24 rfl rfl rfl rfl rfl rfl (fun w' hm => hRb _ w' (hdp.mem hm) (hK.fr hm.fr (by simp)))) (.inl fun _ => (by repeat (first | exact List.nil_sublist _ | exact List.Sublist.refl _ | apply List.Sublist.cons_cons | apply List.Sublist.cons))) (fun _ => ?_)
          refine DR.one (i := 10) (by kernel_rfl) ?_
          refine DOp.op rfl (Wanted.plain rfl) (OpTo.setAll tabOk rfl rfl rfl rfl rfl p1 rla rfl) (.inl fun _ => (by repeat (first | exact List.nil_sublist _ | exact List.Sublist.refl _ | apply List.Sublist.cons_cons | apply List.Sublist.cons))) (fun _ => ?_)
          refine DR.one (i := 11) (by kernel_rfl) ?_
          refine DOp.op rfl (Wanted.plain rfl) (OpTo.setAll tabOk rfl rfl rfl rfl rfl p1 rlb rfl) (.inr (by kernel_rfl)) (fun _ => ?_)
          refine DR.done (by kernel_rfl) ?_
          exact RQ.to (b4, b5) ⟨rfl, rfl, rfl, rfl, trivial⟩ (List.Sublist.refl _)
      · refine DOp.op rfl (Wanted.plain rfl) (OpTo.new rfl rfl (New.alloc tabOk rfl rfl)) (.inl fun _ => by repeat (first | exact List.nil_sublist _ | exact List.Sublist.refl _ | apply List.Sublist.cons_cons | apply List.Sublist.cons)) ?_
        intro b5
        refine DR.one (i := 3) (by kernel_rfl) ?_
        refine DOp.op rfl (Wanted.plain rfl) (OpTo.callV Tryd.func24 rfl rfl rfl rfl rfl rfl (fun w' hm => hRa _ w' (ht.mem hm) (hK.fr hm.fr (by simp)))) (.inl fun _ => (by repeat (first | exact List.nil_sublist _ | exact List.Sublist.refl _ | apply List.Sublist.cons_cons | apply List.Sublist.cons))) (fun _ => ?_)
        refine DR.one (i := 7) (by kernel_rfl) ?_
        refine DOp.op rfl (Wanted.plain rfl) (OpTo.callV Tryd.func24 rfl rfl rfl rfl rfl rfl (fun w' hm => hRb _ w' (hdp.mem hm) (hK.fr hm.fr (by simp)))) (.inl fun _ => (by repeat (first | exact List.nil_sublist _ | exact List.Sublist.refl _ | apply List.Sublist.cons_cons | apply List.Sublist.cons))) (fun _ => ?_)
        refine DR.one (i := 10) (by kernel_rfl) ?_
        refine DOp.op rfl (Wanted.plain rfl) (OpTo.setAll tabOk rfl rfl rfl rfl rfl p1 rla rfl) (.inl fun _ => (by repeat (first | exact List.nil_sublist _ | exact List.Sublist.refl _ | apply List.Sublist.cons_cons | apply List.Sublist.cons))) (fun _ => ?_)
        refine DR.one (i := 11) (by kernel_rfl) ?_
        refine DOp.op rfl (Wanted.plain rfl) (OpTo.setAll tabOk rfl rfl rfl rfl rfl p1 rlb rfl) (.inr (by kernel_rfl)) (fun _ => ?_)
        refine DR.done (by kernel_rfl) ?_
        exact RQ.to (b4, b5) ⟨rfl, rfl, rfl, rfl, trivial⟩ (List.Sublist.refl _)
    · refine DOp.op rfl (Wanted.plain rfl) (OpTo.new rfl rfl (New.alloc tabOk rfl rfl)) (.inl fun _ => by repeat (first | exact List.nil_sublist _ | exact List.Sublist.refl _ | apply List.Sublist.cons_cons | apply List.Sublist.cons)) ?_
      intro b5
      refine DR.two (i := 3) (j := 8) (by kernel_rfl) ?_ ?_
      · refine DOp.op rfl (Wanted.plain rfl) (OpTo.callV Tryd.func24 rfl rfl rfl rfl rfl rfl (fun w' hm => hRa _ w' (ht.mem hm) (hK.fr hm.fr (by simp)))) (.inl fun _ => (by repeat (first | exact List.nil_sublist _ | exact List.Sublist.refl _ | apply List.Sublist.cons_cons | apply List.Sublist.cons))) (fun _ => ?_)
        refine DR.two (i := 7) (j := 8) (by kernel_rfl) ?_ ?_
        · refine DOp.op rfl (Wanted.plain rfl) (OpTo.callV Tryd.func24 rfl rfl rfl rfl rfl rfl (fun w' hm => hRb _ w' (hdp.mem hm) (hK.fr hm.fr (by simp)))) (.inl fun _ => (by repeat (first | exact List.nil_sublist _ | exact List.Sublist.refl _ | apply List.Sublist.cons_cons | apply List.Sublist.cons))) (fun _ => ?_)
          refine DR.one (i := 8) (by kernel_rfl) ?_
          refine DOp.op rfl (Wanted.plain rfl) (OpTo.new rfl rfl (New.alloc tabOk rfl rfl)) (.inl fun _ => by repeat (first | exact List.nil_sublist _ | exact List.Sublist.refl _ | apply List.Sublist.cons_cons | apply List.Sublist.cons)) ?_
          intro b4
          refine DR.one (i := 10) (by kernel_rfl) ?_
          refine DOp.op rfl (Wanted.plain rfl) (OpTo.setAll tabOk rfl rfl rfl rfl rfl (List.Perm.refl _) rla rfl) (.inl fun _ => (by repeat (first | exact List.nil_sublist _ | exact List.Sublist.refl _ | apply List.Sublist.cons_cons | apply List.Sublist.cons))) (fun _ => ?_)
          refine DR.one (i := 11) (by kernel_rfl) ?_
          refine DOp.op rfl (Wanted.plain rfl) (OpTo.setAll tabOk rfl rfl rfl rfl rfl p1 rlb rfl) (.inr (by kernel_rfl)) (fun _ => ?_)
          refine DR.done (by kernel_rfl) ?_
          exact RQ.to (b4, b5) ⟨rfl, rfl, rfl, rfl, trivial⟩ (List.Sublist.refl _)
        · refine DOp.op rfl (Wanted.plain rfl) (OpTo.new rfl rfl (New.alloc tabOk rfl rfl)) (.inl fun _ => by repeat (first | exact List.nil_sublist _ | exact List.Sublist.refl _ | apply List.Sublist.cons_cons | apply List.Sublist.cons)) ?_
          intro b4
          refine DR.one (i := 7) (by kernel_rfl) ?_
          refine DOp.op rfl (Wanted.plain rfl) (OpTo.callV Tryd.func24 rfl rfl rfl rfl rfl rfl (fun w' hm => hRb _ w' (hdp.mem hm) (hK.fr hm.fr (by simp)))) (.inl fun _ => (by repeat (first | exact List.nil_sublist _ | exact List.Sublist.refl _ | apply List.Sublist.cons_cons | apply List.Sublist.cons))) (fun _ => ?_)
          refine DR.one (i := 10) (by kernel_rfl) ?_
          refine DOp.op rfl (Wanted.plain rfl) (OpTo.setAll tabOk rfl rfl rfl rfl rfl (List.Perm.refl _) rla rfl) (.inl fun _ => (by repeat (first | exact List.nil_sublist _ | exact List.Sublist.refl _ | apply List.Sublist.cons_cons | apply List.Sublist.cons))) (fun _ => ?_)
          refine DR.one (i := 11) (by kernel_rfl) ?_
          refine DOp.op rfl (Wanted.plain rfl) (OpTo.setAll tabOk rfl rfl rfl rfl rfl p1 rlb rfl) (.inr (by kernel_rfl)) (fun _ => ?_)
          refine DR.done (by kernel_rfl) ?_
          exact RQ.to (b4, b5) ⟨rfl, rfl, rfl, rfl, trivial⟩ (List.Sublist.refl _)
      · refine DOp.op rfl (Wanted.plain rfl) (OpTo.new rfl rfl (New.alloc tabOk rfl rfl)) (.inl fun _ => by repeat (first | exact List.nil_sublist _ | exact List.Sublist.refl _ | apply List.Sublist.cons_cons | apply List.Sublist.cons)) ?_
        intro b4
        refine DR.one (i := 3) (by kernel_rfl) ?_
        refine DOp.op rfl (Wanted.plain rfl) (OpTo.callV Tryd.func24 rfl rfl rfl rfl rfl rfl (fun w' hm => hRa _ w' (ht.mem hm) (hK.fr hm.fr (by simp)))) (.inl fun _ => (by repeat (first | exact List.nil_sublist _ | exact List.Sublist.refl _ | apply List.Sublist.cons_cons | apply List.Sublist.cons))) (fun _ => ?_)
        refine DR.one (i := 7) (by kernel_rfl) ?_
        refine DOp.op rfl (Wanted.plain rfl) (OpTo.callV Tryd.func24 rfl rfl rfl rfl rfl rfl (fun w' hm => hRb _ w' (hdp.mem hm) (hK.fr hm.fr (by simp)))) (.inl fun _ => (by repeat (first | exact List.nil_sublist _ | exact List.Sublist.refl _ | apply List.Sublist.cons_cons | apply List.Sublist.cons))) (fun _ => ?_)
        refine DR.one (i := 10) (by kernel_rfl) ?_
        refine DOp.op rfl (Wanted.plain rfl) (OpTo.setAll tabOk rfl rfl rfl rfl rfl (List.Perm.refl _) rla rfl) (.inl fun _ => (by repeat (first | exact List.nil_sublist _ | exact List.Sublist.refl _ | apply List.Sublist.cons_cons | apply List.Sublist.cons))) (fun _ => ?_)
        refine DR.one (i := 11) (by kernel_rfl) ?_
        refine DOp.op rfl (Wanted.plain rfl) (OpTo.setAll tabOk rfl rfl rfl rfl rfl p1 rlb rfl) (.inr (by kernel_rfl)) (fun _ => ?_)
        refine DR.done (by kernel_rfl) ?_
        exact RQ.to (b4, b5) ⟨rfl, rfl, rfl, rfl, trivial⟩ (List.Sublist.refl _)
  obtain ⟨b4, b5⟩ := y
  dsimp only
  (repeat refine RC.seq ?_); refine RC.region ?_
  refine Run.v rfl rfl rfl (Val.of rfl) ?_
  refine Run.op rfl (OpTo.callMk2 Tryd.func22 rfl rfl rfl rfl rfl rfl (fun w' hm => hP _ w' (hs.mem hm) (hK.fr hm.fr (by simp)))) ?_
  rintro ⟨⟨v6, bl6⟩, hown6⟩
  dsimp only at hown6 ⊢
  refine Run.v rfl rfl rfl (Val.of rfl) ?_
  refine Run.v rfl rfl rfl (Val.of rfl) ?_
  refine Run.v rfl rfl rfl (Val.of rfl) ?_
  refine Run.v rfl rfl rfl (Val.of rfl) ?_
  refine Run.v rfl rfl rfl (Val.of rfl) ?_
  refine Run.nil (RQ.next ?_)
  (repeat refine RC.seq ?_); refine RC.region ?_
  refine Run.v rfl rfl rfl (Val.of rfl) ?_
  refine Run.v rfl rfl rfl (Val.of rfl) ?_
  refine Run.v rfl rfl rfl (Val.len (len := l.length) tabOk rfl rfl rfl rfl) ?_
  refine Run.v rfl rfl rfl (Val.eq (Val.ar rfl rfl rfl rfl (by dsimp only [inK]; omega)) (show _ = Value.int .i64 ((l.length - 1 : Nat) : Int) from by congr 1; omega)) ?_
  refine Run.op rfl (OpTo.callMk2 Tryd.func22 rfl rfl rfl rfl rfl rfl (fun w' hm => hQ _ w' (hs.mem hm) (hK.fr hm.fr (by simp)))) ?_
  rintro ⟨⟨v8, bl8⟩, hown8⟩
  dsimp only at hown8 ⊢
  refine Run.v rfl rfl rfl (Val.of rfl) ?_
  refine Run.v rfl rfl rfl (Val.of rfl) ?_
  refine Run.v rfl rfl rfl (Val.of rfl) ?_
  refine Run.v rfl rfl rfl (Val.of rfl) ?_
  refine Run.v rfl rfl rfl (Val.of rfl) ?_
  refine Run.nil (RQ.next ?_)
  obtain ⟨bp, cap6, rest6, rfl, rfl, y1, y2, y3, y4⟩ := hown6.pos p2'
  obtain ⟨bq, cap8, rest8, rfl, rfl, x1, x2, x3, x4⟩ := hown8.pos q2'
  (repeat refine RC.seq ?_); refine RC.region ?_
  refine Run.v rfl rfl rfl (Val.of rfl) ?_
  refine Run.v rfl rfl rfl (Val.eq (Val.sliceS' tabOk 0 1 rfl rfl rfl rfl rfl (.inl ⟨rfl, rfl⟩) (.inr ⟨_, rfl, rfl⟩) (by omega) (by omega) (by omega) rfl) (show _ = Value.slice (some ad) 1 c from by rw [Nat.zero_mul, add_zero_]; rfl)) ?_
  refine Run.callV Tryd.func24 rfl rfl rfl rfl rfl rfl rfl (fun w' hm => hR1 _ w' (hone.mem hm) (hK.fr hm.fr (by simp))) ?_
  refine Run.mk rfl rfl rfl (New.alloc tabOk rfl rfl) ?_
  intro b10
  refine Run.op rfl (OpTo.setAll tabOk rfl rfl rfl rfl rfl (List.Perm.refl _) rl1 rfl) (fun _ => ?_)
  refine Run.nil (RQ.next ?_)
  (repeat refine RC.seq ?_); refine RC.drawS mixed (N := 52) rfl ?_
  refine DR.take 0 rfl (by repeat (first | exact List.nil_sublist _ | exact List.Sublist.refl _ | apply List.Sublist.cons_cons | apply List.Sublist.cons)) inferInstance (by kernel_rfl) (by kernel_rfl) (by kernel_rfl) (by kernel_rfl) rfl rfl (Wanted.plain rfl) (Val.of rfl) ?_
  refine DR.take 2 rfl (by repeat (first | exact List.nil_sublist _ | exact List.Sublist.refl _ | apply List.Sublist.cons_cons | apply List.Sublist.cons)) inferInstance (by kernel_rfl) (by kernel_rfl) (by kernel_rfl) (by kernel_rfl) rfl rfl (Wanted.plain rfl) (Val.loadU tabOk rfl rfl rfl rfl (by repeat (first | exact List.mem_cons_self | apply List.mem_cons_of_mem | apply List.mem_append_right)) rla) ?_
  refine DR.take 3 rfl (by repeat (first | exact List.nil_sublist _ | exact List.Sublist.refl _ | apply List.Sublist.cons_cons | apply List.Sublist.cons)) inferInstance (by kernel_rfl) (by kernel_rfl) (by kernel_rfl) (by kernel_rfl) rfl rfl (Wanted.plain rfl) (Val.loadU tabOk rfl rfl rfl rfl (by repeat (first | exact List.mem_cons_self | apply List.mem_cons_of_mem | apply List.mem_append_right)) rlb) ?_
  refine DR.one (i := 1) (by kernel_rfl) ?_
  refine DOp.op rfl (Wanted.plain rfl) (OpTo.callV Tryd.func24 rfl rfl rfl rfl rfl rfl (fun w' hm => hRl _ w' (hs.mem hm) (hK.fr hm.fr (by simp)))) (.inl fun _ => (by repeat (first | exact List.nil_sublist _ | exact List.Sublist.refl _ | apply List.Sublist.cons_cons | apply List.Sublist.cons))) (fun _ => ?_)
  refine DR.one (i := 4) (by kernel_rfl) ?_
  refine DOp.op rfl (Wanted.plain rfl) (OpTo.callV Tryd.func28 rfl rfl rfl rfl rfl rfl (fun w' _ => ref_Two_calls 109 (by decide) _ _ rla rlb sla slb w')) (.inl fun _ => (by repeat (first | exact List.nil_sublist _ | exact List.Sublist.refl _ | apply List.Sublist.cons_cons | apply List.Sublist.cons))) (fun _ => ?_)
  rw [hrc']
  refine DR.take 5 rfl (by repeat (first | exact List.nil_sublist _ | exact List.Sublist.refl _ | apply List.Sublist.cons_cons | apply List.Sublist.cons)) inferInstance (by kernel_rfl) (by kernel_rfl) (by kernel_rfl) (by kernel_rfl) rfl rfl (Wanted.plain rfl) (Val.eq (Val.eqU (m := 8) (a := rl) (b := rl) tabOk rfl rfl rfl (by kernel_rfl) (by kernel_rfl) rfl rfl rll rll) (show _ = Value.bool true from by simp)) ?_
  refine DR.take 6 rfl (by repeat (first | exact List.nil_sublist _ | exact List.Sublist.refl _ | apply List.Sublist.cons_cons | apply List.Sublist.cons)) inferInstance (by kernel_rfl) (by kernel_rfl) (by kernel_rfl) (by kernel_rfl) rfl rfl (Wanted.plain rfl) (Val.of rfl) ?_
  refine DR.take 7 rfl (by repeat (first | exact List.nil_sublist _ | exact List.Sublist.refl _ | apply List.Sublist.cons_cons | apply List.Sublist.cons)) inferInstance (by kernel_rfl) (by kernel_rfl) (by kernel_rfl) (by kernel_rfl) rfl rfl (Wanted.guard rfl rfl rfl rfl) (Val.of rfl) ?_
  refine DR.take 8 rfl (by repeat (first | exact List.nil_sublist _ | exact List.Sublist.refl _ | apply List.Sublist.cons_cons | apply List.Sublist.cons)) inferInstance (by kernel_rfl) (by kernel_rfl) (by kernel_rfl) (by kernel_rfl) rfl rfl (Wanted.plain rfl) (Val.of rfl) ?_
  refine DR.take 9 rfl (by repeat (first | exact List.nil_sublist _ | exact List.Sublist.refl _ | apply List.Sublist.cons_cons | apply List.Sublist.cons)) inferInstance (by kernel_rfl) (by kernel_rfl) (by kernel_rfl) (by kernel_rfl) rfl rfl (Wanted.plain rfl) (Val.of rfl) ?_
  refine DR.take 10 rfl (by repeat (first | exact List.nil_sublist _ | exact List.Sublist.refl _ | apply List.Sublist.cons_cons | apply List.Sublist.cons)) inferInstance (by kernel_rfl) (by kernel_rfl) (by kernel_rfl) (by kernel_rfl) rfl rfl (Wanted.guard rfl rfl rfl rfl) (Val.of rfl) ?_
  refine DR.take 11 rfl (by repeat (first | exact List.nil_sublist _ | exact List.Sublist.refl _ | apply List.Sublist.cons_cons | apply List.Sublist.cons)) inferInstance (by kernel_rfl) (by kernel_rfl) (by kernel_rfl) (by kernel_rfl) rfl rfl (Wanted.plain rfl) (Val.of rfl) ?_
  refine DR.take 12 rfl (by repeat (first | exact List.nil_sublist _ | exact List.Sublist.refl _ | apply List.Sublist.cons_cons | apply List.Sublist.cons)) inferInstance (by kernel_rfl) (by kernel_rfl) (by kernel_rfl) (by kernel_rfl) rfl rfl (Wanted.plain rfl) (Val.of rfl) ?_
  refine DR.take 13 rfl (by repeat (first | exact List.nil_sublist _ | exact List.Sublist.refl _ | apply List.Sublist.cons_cons | apply List.Sublist.cons)) inferInstance (by kernel_rfl) (by kernel_rfl) (by kernel_rfl) (by kernel_rfl) rfl rfl (Wanted.guard rfl rfl rfl rfl) (Val.of rfl) ?_
  refine DR.take 14 rfl (by repeat (first | exact List.nil_sublist _ | exact List.Sublist.refl _ | apply List.Sublist.cons_cons | apply List.Sublist.cons)) inferInstance (by kernel_rfl) (by kernel_rfl) (by kernel_rfl) (by kernel_rfl) rfl rfl (Wanted.guard rfl rfl rfl rfl) (Val.len (len := pp.length) tabOk rfl rfl rfl rfl) ?_
  refine DR.take 15 rfl (by repeat (first | exact List.nil_sublist _ | exact List.Sublist.refl _ | apply List.Sublist.cons_cons | apply List.Sublist.cons)) inferInstance (by kernel_rfl) (by kernel_rfl) (by kernel_rfl) (by kernel_rfl) rfl rfl (Wanted.guard rfl rfl rfl rfl) (Val.eq (Val.of rfl) (show _ = Value.bool true from congrArg Value.bool (decide_eq_true (by omega)))) ?_
  refine DR.take 16 rfl (by repeat (first | exact List.nil_sublist _ | exact List.Sublist.refl _ | apply List.Sublist.cons_cons | apply List.Sublist.cons)) inferInstance (by kernel_rfl) (by kernel_rfl) (by kernel_rfl) (by kernel_rfl) rfl rfl (Wanted.plain rfl) (Val.of rfl) ?_
  refine DR.take 17 rfl (by repeat (first | exact List.nil_sublist _ | exact List.Sublist.refl _ | apply List.Sublist.cons_cons | apply List.Sublist.cons)) inferInstance (by kernel_rfl) (by kernel_rfl) (by kernel_rfl) (by kernel_rfl) rfl rfl (Wanted.plain rfl) (Val.of rfl) ?_
  refine DR.take 18 rfl (by repeat (first | exact List.nil_sublist _ | exact List.Sublist.refl _ | apply List.Sublist.cons_cons | apply List.Sublist.cons)) inferInstance (by kernel_rfl) (by kernel_rfl) (by kernel_rfl) (by kernel_rfl) rfl rfl (Wanted.guard rfl rfl rfl rfl) (Val.of rfl) ?_
  refine DR.take 19 rfl (by repeat (first | exact List.nil_sublist _ | exact List.Sublist.refl _ | apply List.Sublist.cons_cons | apply List.Sublist.cons)) inferInstance (by kernel_rfl) (by kernel_rfl) (by kernel_rfl) (by kernel_rfl) rfl rfl (Wanted.guard rfl rfl rfl rfl) (Val.len (len := qq.length) tabOk rfl rfl rfl rfl) ?_
  refine DR.take 20 rfl (by repeat (first | exact List.nil_sublist _ | exact List.Sublist.refl _ | apply List.Sublist.cons_cons | apply List.Sublist.cons)) inferInstance (by kernel_rfl) (by kernel_rfl) (by kernel_rfl) (by kernel_rfl) rfl rfl (Wanted.guard rfl rfl rfl rfl) (Val.eq (Val.of rfl) (show _ = Value.bool true from congrArg Value.bool (decide_eq_true (by omega)))) ?_
  refine DR.take 21 rfl (by repeat (first | exact List.nil_sublist _ | exact List.Sublist.refl _ | apply List.Sublist.cons_cons | apply List.Sublist.cons)) inferInstance (by kernel_rfl) (by kernel_rfl) (by kernel_rfl) (by kernel_rfl) rfl rfl (Wanted.plain rfl) (Val.of rfl) ?_
  refine DR.take 22 rfl (by repeat (first | exact List.nil_sublist _ | exact List.Sublist.refl _ | apply List.Sublist.cons_cons | apply List.Sublist.cons)) inferInstance (by kernel_rfl) (by kernel_rfl) (by kernel_rfl) (by kernel_rfl) rfl rfl (Wanted.plain rfl) (Val.of rfl) ?_
  refine DR.take 23 rfl (by repeat (first | exact List.nil_sublist _ | exact List.Sublist.refl _ | apply List.Sublist.cons_cons | apply List.Sublist.cons)) inferInstance (by kernel_rfl) (by kernel_rfl) (by kernel_rfl) (by kernel_rfl) rfl rfl (Wanted.guard rfl rfl rfl rfl) (Val.of rfl) ?_
  refine DR.take 24 rfl (by repeat (first | exact List.nil_sublist _ | exact List.Sublist.refl _ | apply List.Sublist.cons_cons | apply List.Sublist.cons)) inferInstance (by kernel_rfl) (by kernel_rfl) (by kernel_rfl) (by kernel_rfl) rfl rfl (Wanted.guard rfl rfl rfl rfl) (Val.of rfl) ?_
  refine DR.take 25 rfl (by repeat (first | exact List.nil_sublist _ | exact List.Sublist.refl _ | apply List.Sublist.cons_cons | apply List.Sublist.cons)) inferInstance (by kernel_rfl) (by kernel_rfl) (by kernel_rfl) (by kernel_rfl) rfl rfl (Wanted.guard rfl rfl rfl rfl) (Val.len (len := pp.length) tabOk rfl rfl rfl rfl) ?_
  refine DR.take 26 rfl (by repeat (first | exact List.nil_sublist _ | exact List.Sublist.refl _ | apply List.Sublist.cons_cons | apply List.Sublist.cons)) inferInstance (by kernel_rfl) (by kernel_rfl) (by kernel_rfl) (by kernel_rfl) rfl rfl (Wanted.guard rfl rfl rfl rfl) (Val.eq (Val.ar rfl rfl rfl rfl (by dsimp only [inK]; omega)) (show _ = Value.int .i64 ((pp.length - 1 : Nat) : Int) from by congr 1; omega)) ?_
  refine DR.take 27 rfl (by repeat (first | exact List.nil_sublist _ | exact List.Sublist.refl _ | apply List.Sublist.cons_cons | apply List.Sublist.cons)) inferInstance (by kernel_rfl) (by kernel_rfl) (by kernel_rfl) (by kernel_rfl) rfl rfl (Wanted.guard rfl rfl rfl rfl) (Val.ixS tabOk (pp.length - 1) (ad' := ⟨bp, (pp.length - 1) * 8, none⟩) rfl rfl rfl rfl rfl rfl rfl (by omega) (by rw [add_lit]; simp [ti23])) ?_
  refine DR.take 28 rfl (by repeat (first | exact List.nil_sublist _ | exact List.Sublist.refl _ | apply List.Sublist.cons_cons | apply List.Sublist.cons)) inferInstance (by kernel_rfl) (by kernel_rfl) (by kernel_rfl) (by kernel_rfl) rfl rfl (Wanted.guard rfl rfl rfl rfl) (Own.hash (k := pp.length - 1) (x := rb) hpH p1' tabOk rfl rfl rfl rfl (by repeat (first | exact List.mem_cons_self | apply List.mem_cons_of_mem | apply List.mem_append_right)) rfl rfl) ?_
  refine DR.take 29 rfl (by repeat (first | exact List.nil_sublist _ | exact List.Sublist.refl _ | apply List.Sublist.cons_cons | apply List.Sublist.cons)) inferInstance (by kernel_rfl) (by kernel_rfl) (by kernel_rfl) (by kernel_rfl) rfl rfl (Wanted.guard rfl rfl rfl rfl) (Val.loadU tabOk rfl rfl rfl rfl (by repeat (first | exact List.mem_cons_self | apply List.mem_cons_of_mem | apply List.mem_append_right)) rlb) ?_
  refine DR.take 30 rfl (by repeat (first | exact List.nil_sublist _ | exact List.Sublist.refl _ | apply List.Sublist.cons_cons | apply List.Sublist.cons)) inferInstance (by kernel_rfl) (by kernel_rfl) (by kernel_rfl) (by kernel_rfl) rfl rfl (Wanted.guard rfl rfl rfl rfl) (Val.eq (Val.eqU (m := 8) (a := rb) (b := rb) tabOk rfl rfl rfl (by kernel_rfl) (by kernel_rfl) rfl rfl rlb rlb) (show _ = Value.bool true from by simp)) ?_
  refine DR.take 31 rfl (by repeat (first | exact List.nil_sublist _ | exact List.Sublist.refl _ | apply List.Sublist.cons_cons | apply List.Sublist.cons)) inferInstance (by kernel_rfl) (by kernel_rfl) (by kernel_rfl) (by kernel_rfl) rfl rfl (Wanted.plain rfl) (Val.of rfl) ?_
  refine DR.take 32 rfl (by repeat (first | exact List.nil_sublist _ | exact List.Sublist.refl _ | apply List.Sublist.cons_cons | apply List.Sublist.cons)) inferInstance (by kernel_rfl) (by kernel_rfl) (by kernel_rfl) (by kernel_rfl) rfl rfl (Wanted.plain rfl) (Val.of rfl) ?_
  refine DR.take 33 rfl (by repeat (first | exact List.nil_sublist _ | exact List.Sublist.refl _ | apply List.Sublist.cons_cons | apply List.Sublist.cons)) inferInstance (by kernel_rfl) (by kernel_rfl) (by kernel_rfl) (by kernel_rfl) rfl rfl (Wanted.guard rfl rfl rfl rfl) (Val.of rfl) ?_
  refine DR.take 34 rfl (by repeat (first | exact List.nil_sublist _ | exact List.Sublist.refl _ | apply List.Sublist.cons_cons | apply List.Sublist.cons)) inferInstance (by kernel_rfl) (by kernel_rfl) (by kernel_rfl) (by kernel_rfl) rfl rfl (Wanted.guard rfl rfl rfl rfl) (Val.of rfl) ?_
  refine DR.take 35 rfl (by repeat (first | exact List.nil_sublist _ | exact List.Sublist.refl _ | apply List.Sublist.cons_cons | apply List.Sublist.cons)) inferInstance (by kernel_rfl) (by kernel_rfl) (by kernel_rfl) (by kernel_rfl) rfl rfl (Wanted.guard rfl rfl rfl rfl) (Val.len (len := qq.length) tabOk rfl rfl rfl rfl) ?_
  refine DR.take 36 rfl (by repeat (first | exact List.nil_sublist _ | exact List.Sublist.refl _ | apply List.Sublist.cons_cons | apply List.Sublist.cons)) inferInstance (by kernel_rfl) (by kernel_rfl) (by kernel_rfl) (by kernel_rfl) rfl rfl (Wanted.guard rfl rfl rfl rfl) (Val.eq (Val.ar rfl rfl rfl rfl (by dsimp only [inK]; omega)) (show _ = Value.int .i64 ((qq.length - 1 : Nat) : Int) from by congr 1; omega)) ?_
  refine DR.take 37 rfl (by repeat (first | exact List.nil_sublist _ | exact List.Sublist.refl _ | apply List.Sublist.cons_cons | apply List.Sublist.cons)) inferInstance (by kernel_rfl) (by kernel_rfl) (by kernel_rfl) (by kernel_rfl) rfl rfl (Wanted.guard rfl rfl rfl rfl) (Val.ixS tabOk (qq.length - 1) (ad' := ⟨bq, (qq.length - 1) * 8, none⟩) rfl rfl rfl rfl rfl rfl rfl (by omega) (by rw [add_lit]; simp [ti23])) ?_
  refine DR.take 38 rfl (by repeat (first | exact List.nil_sublist _ | exact List.Sublist.refl _ | apply List.Sublist.cons_cons | apply List.Sublist.cons)) inferInstance (by kernel_rfl) (by kernel_rfl) (by kernel_rfl) (by kernel_rfl) rfl rfl (Wanted.guard rfl rfl rfl rfl) (Own.hash (k := qq.length - 1) (x := ra) hqH q1' tabOk rfl rfl rfl rfl (by repeat (first | exact List.mem_cons_self | apply List.mem_cons_of_mem | apply List.mem_append_right)) rfl rfl) ?_
  refine DR.take 39 rfl (by repeat (first | exact List.nil_sublist _ | exact List.Sublist.refl _ | apply List.Sublist.cons_cons | apply List.Sublist.cons)) inferInstance (by kernel_rfl) (by kernel_rfl) (by kernel_rfl) (by kernel_rfl) rfl rfl (Wanted.guard rfl rfl rfl rfl) (Val.loadU tabOk rfl rfl rfl rfl (by repeat (first | exact List.mem_cons_self | apply List.mem_cons_of_mem | apply List.mem_append_right)) rla) ?_
  refine DR.take 40 rfl (by repeat (first | exact List.nil_sublist _ | exact List.Sublist.refl _ | apply List.Sublist.cons_cons | apply List.Sublist.cons)) inferInstance (by kernel_rfl) (by kernel_rfl) (by kernel_rfl) (by kernel_rfl) rfl rfl (Wanted.guard rfl rfl rfl rfl) (Val.eq (Val.eqU (m := 8) (a := ra) (b := ra) tabOk rfl rfl rfl (by kernel_rfl) (by kernel_rfl) rfl rfl rla rla) (show _ = Value.bool true from by simp)) ?_
  refine DR.take 41 rfl (by repeat (first | exact List.nil_sublist _ | exact List.Sublist.refl _ | apply List.Sublist.cons_cons | apply List.Sublist.cons)) inferInstance (by kernel_rfl) (by kernel_rfl) (by kernel_rfl) (by kernel_rfl) rfl rfl (Wanted.plain rfl) (Val.of rfl) ?_
  refine DR.take 42 rfl (by repeat (first | exact List.nil_sublist _ | exact List.Sublist.refl _ | apply List.Sublist.cons_cons | apply List.Sublist.cons)) inferInstance (by kernel_rfl) (by kernel_rfl) (by kernel_rfl) (by kernel_rfl) rfl rfl (Wanted.plain rfl) (Val.of rfl) ?_
  refine DR.take 43 rfl (by repeat (first | exact List.nil_sublist _ | exact List.Sublist.refl _ | apply List.Sublist.cons_cons | apply List.Sublist.cons)) inferInstance (by kernel_rfl) (by kernel_rfl) (by kernel_rfl) (by kernel_rfl) rfl rfl (Wanted.guard rfl rfl rfl rfl) (Val.loadU tabOk rfl rfl rfl rfl m0 rl1) ?_
  refine DR.take 44 rfl (by repeat (first | exact List.nil_sublist _ | exact List.Sublist.refl _ | apply List.Sublist.cons_cons | apply List.Sublist.cons)) inferInstance (by kernel_rfl) (by kernel_rfl) (by kernel_rfl) (by kernel_rfl) rfl rfl (Wanted.guard rfl rfl rfl rfl) (Val.of rfl) ?_
  have hx1 := hx8.1
  refine DR.take 45 rfl (by repeat (first | exact List.nil_sublist _ | exact List.Sublist.refl _ | apply List.Sublist.cons_cons | apply List.Sublist.cons)) inferInstance (by kernel_rfl) (by kernel_rfl) (by kernel_rfl) (by kernel_rfl) rfl rfl (Wanted.guard rfl rfl rfl rfl) (Val.ixS tabOk 0 (ad' := ad) rfl rfl rfl rfl rfl rfl rfl (by omega) (by rw [Nat.zero_mul]; exact add_zero_ ad)) ?_
  refine DR.take 46 rfl (by repeat (first | exact List.nil_sublist _ | exact List.Sublist.refl _ | apply List.Sublist.cons_cons | apply List.Sublist.cons)) inferInstance (by kernel_rfl) (by kernel_rfl) (by kernel_rfl) (by kernel_rfl) rfl rfl (Wanted.guard rfl rfl rfl rfl) (Val.eq (Val.sliceAd tabOk rfl rfl rfl rfl rfl) (show _ = Value.slice (some ad) x.length x.length from by rw [hx1])) ?_
  refine DR.one (i := 47) (by kernel_rfl) (DOp.op rfl (Wanted.guard rfl rfl rfl rfl) (OpTo.new rfl rfl (New.buildSlice tabOk (parts := [(0, .tmp 98)]) (cells := [Value.slice (some ad) x.length x.length].toArray) rfl rfl rfl rfl rfl rfl (fillS_full 1 1 _ [Value.slice (some ad) x.length x.length] rfl (by simp [Value.cells])))) (.inl fun _ => (by repeat (first | exact List.nil_sublist _ | exact List.Sublist.refl _ | apply List.Sublist.cons_cons | apply List.Sublist.cons))) ?_)
  intro b99
  refine DR.one (i := 48) (by kernel_rfl) ?_
  refine DOp.op rfl (Wanted.guard rfl rfl rfl rfl) (OpTo.callV Tryd.func20 rfl rfl rfl rfl rfl rfl (fun w' hm => Digest_calls 108 (by decide) _ _ [x] w' (SrcW.row hm m0 rfl (Nat.le_refl 1)) (parts1' (u := .slice (some ad) x.length x.length) ((SrcW.at ad x.length x.length (u8s x) (by rw [u8s_len, Nat.mul_one]) (Nat.le_refl _) hload).mem hm)) (by simp [tot, hx1]) (by simpa using hx8.2))) (.inl fun _ => by repeat (first | exact List.nil_sublist _ | exact List.Sublist.refl _ | apply List.Sublist.cons_cons | apply List.Sublist.cons)) (fun _ => ?_)
  rw [show digest 108 [x] = leafN x from rfl]
  refine DR.take 49 rfl (by repeat (first | exact List.nil_sublist _ | exact List.Sublist.refl _ | apply List.Sublist.cons_cons | apply List.Sublist.cons)) inferInstance (by kernel_rfl) (by kernel_rfl) (by kernel_rfl) (by kernel_rfl) rfl rfl (Wanted.guard rfl rfl rfl rfl) (Val.eq (Val.eqU (m := 8) (a := leafN x) (b := leafN x) tabOk rfl rfl rfl (by kernel_rfl) (by kernel_rfl) rfl rfl rl1 rl1) (show _ = Value.bool true from by simp)) ?_
  refine DR.take 50 rfl (by repeat (first | exact List.nil_sublist _ | exact List.Sublist.refl _ | apply List.Sublist.cons_cons | apply List.Sublist.cons)) inferInstance (by kernel_rfl) (by kernel_rfl) (by kernel_rfl) (by kernel_rfl) rfl rfl (Wanted.plain rfl) (Val.of rfl) ?_
  refine DR.take 51 rfl (by repeat (first | exact List.nil_sublist _ | exact List.Sublist.refl _ | apply List.Sublist.cons_cons | apply List.Sublist.cons)) inferInstance (by kernel_rfl) (by kernel_rfl) (by kernel_rfl) (by kernel_rfl) rfl rfl (Wanted.plain rfl) (Val.of rfl) ?_
  refine DR.done (by kernel_rfl) (RQ.next ?_)
  refine RC.ret ?_; (repeat first | refine RQ.thenRet ?_ | refine RQ.blockRet ?_); exact RQ.ret1 rfl (Res.tmp rfl) fun w' hm => ⟨rfl, hm.fr⟩
end Go.Proofs.YtnkogpfmfmjhoaaDoor
