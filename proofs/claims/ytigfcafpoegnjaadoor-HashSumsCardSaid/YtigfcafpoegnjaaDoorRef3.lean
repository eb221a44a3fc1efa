/- The reference's ReadHash, Text. -/
import Derived.Test.YtigfcafpoegnjaaDoorRefT
import Derived.Test.YtigfcafpoegnjaaDoorRefG
namespace Go.Proofs.YtigfcafpoegnjaaDoor
open Go Go.Vc Go.Sha

/-- What i pairs of digits make. -/
def prs (s : List Nat) (i : Nat) : List Nat := (List.range 8).map fun j => if j < i then 16 * digN (s.getD (2 * j) 0) + digN (s.getD (2 * j + 1) 0) else 0
theorem prs_len (s : List Nat) (i : Nat) : (prs s i).length = 8 := by simp [prs]
theorem prs_zero (s : List Nat) : prs s 0 = List.replicate 8 0 := by simp [prs]; decide
theorem prs_all (s : List Nat) : prs s 8 = nibs s 16 := by
  apply List.ext_getElem
  · simp [prs, nibs]
  · intro k h1 h2
    rw [prs_len] at h1
    simp only [prs, nibs, List.getElem_map, List.getElem_range, nib]
    rw [if_pos h1, if_pos (by omega)]
theorem prs_set (s : List Nat) (i : Nat) : (prs s i).set i (16 * digN (s.getD (2 * i) 0) + digN (s.getD (2 * i + 1) 0)) = prs s (i + 1) := by
  apply List.ext_getElem
  · simp [prs_len]
  · intro k h1 h2
    simp only [List.getElem_set, prs, List.getElem_map, List.getElem_range]
    by_cases e : i = k
    · subst e; simp
    · have : (k < i) ↔ (k < i + 1) := by omega
      simp only [e, if_false, this]

theorem ReadHash_calls (s : List Nat) (hs : ∀ x ∈ s, x < 256) (w : World) :
    Gives Tryd.prog 20 [.string (bs s)] (.tuple #[.agg (u8s (readH s)).toArray, .bool (readOk s)]) w := by
  refine enter Tryd.func20 rfl (Mem.nil w []) rfl ?_
  (repeat refine RC.seq ?_); refine RC.region ?_
  refine Run.mk rfl rfl rfl (New.alloc tabOk rfl rfl) ?_
  intro b2
  refine Run.v rfl rfl rfl (Val.of rfl) ?_
  refine Run.nil (RQ.next ?_)
  (repeat refine RC.seq ?_); refine RC.region ?_
  refine Run.mk rfl rfl rfl (New.alloc tabOk rfl rfl) ?_
  intro b4
  refine Run.nil (RQ.next ?_)
  (repeat refine RC.seq ?_); refine RC.region ?_
  refine Run.v rfl rfl rfl (Val.of rfl) ?_
  refine Run.v rfl rfl rfl (Val.eq (Val.lenStr tabOk rfl rfl rfl rfl) (show _ = Value.int .i64 (s.length : Nat) from by rw [bs_size])) ?_
  refine Run.v rfl rfl rfl (Val.of rfl) ?_
  refine Run.nil (RQ.next ?_)
  (repeat refine RC.seq ?_); refine RC.cond rfl (fun h => ?_) (fun h => ?_)
  · have hne : s.length ≠ 16 := by
      intro e; rw [e] at h; cases h
    have hok := readOk_len s hne
    have hz : readH s = List.replicate 8 0 := by unfold readH; rw [hok]; rfl
    rw [hok, hz]
    (repeat refine RC.seq ?_); refine RC.region ?_
    refine Run.v rfl rfl rfl (Val.loadAll tabOk rfl rfl rfl rfl m0 rfl) ?_
    refine Run.storeAll tabOk rfl rfl rfl rfl rfl rfl p1 rfl rfl (fun u hu => u8s_one (List.replicate 8 0) u (by simpa [Value.cells, ti23, u8s] using hu)) ?_
    refine Run.v rfl rfl rfl (Val.of rfl) ?_
    refine Run.nil (RQ.next ?_)
    refine RC.ret ?_; (repeat first | refine RQ.thenRet ?_ | refine RQ.blockRet ?_)
    exact RQ.ret2 rfl (Res.cellAll tabOk rfl rfl rfl m0 rfl) (Res.tmp rfl) fun w' hm => ⟨rfl, hm.fr⟩
  have hl16 : s.length = 16 := by
    have := h
    simp only [bne_eq_false_iff_eq] at this
    omega
  clear h
  refine RC.skip (RQ.next ?_)
  (repeat refine RC.seq ?_); refine RC.region ?_
  refine Run.v rfl rfl rfl (Val.of rfl) ?_
  refine Run.nil (RQ.next ?_)
  (repeat refine RC.seq ?_); refine RC.block ?_
  refine RC.up 8 (D := Unit) (fun i _ => ∀ j, j < 2 * i → 0 ≤ dig (s.getD j 0))
    (fun i _ => [(5, .int .i64 i), (4, .pointer (some ⟨b4, 0, none⟩)), (2, .pointer (some ⟨b2, 0, none⟩)), (0, .string (bs s))])
    (fun i _ => [(b4, .cells (u8s (prs s i)).toArray 23 (0, 0)), (b2, .cells ti23.zero.cells 23 (0, 0))])
    0 () (Nat.zero_le _) (by intro j hj; omega) ⟨rfl, rfl, rfl, rfl, trivial⟩ (by rw [prs_zero]; exact List.Sublist.refl _) ?_
  intro i _ hi hall
  (repeat refine RC.seq ?_); refine RC.region ?_
  repeat (refine Run.v rfl rfl rfl (Val.of rfl) ?_)
  refine Run.nil (RQ.next ?_)
  (repeat refine RC.seq ?_); refine RC.wh rfl (fun h => RQ.next ?_) (fun h => ?_)
  · have hi' : i < 8 := by have := of_decide_eq_true h; omega
    clear h
    have hc0 := getD_lt hs (2 * i)
    have hc1 := getD_lt hs (2 * i + 1)
    have hset := prs_set s i
    have hd0 := digN_eq (s.getD (2 * i) 0)
    have hd1 := digN_eq (s.getD (2 * i + 1) 0)
    have hl0 := digN_lt (s.getD (2 * i) 0)
    have hl1 := digN_lt (s.getD (2 * i + 1) 0)
    have hn0 := readOk_not s (2 * i) (by omega)
    have hn1 := readOk_not s (2 * i + 1) (by omega)
    have hall' : 0 ≤ dig (s.getD (2 * i) 0) → 0 ≤ dig (s.getD (2 * i + 1) 0) → ∀ j, j < 2 * (i + 1) → 0 ≤ dig (s.getD j 0) := by
      intro e0 e1 j hj
      rcases (show j < 2 * i ∨ j = 2 * i ∨ j = 2 * i + 1 by omega) with h' | rfl | rfl
      · exact hall j h'
      · exact e0
      · exact e1
    clear hall
    generalize hs0 : s.getD (2 * i) 0 = c0 at *
    generalize hs1 : s.getD (2 * i + 1) 0 = c1 at *
    (repeat refine RC.seq ?_); refine RC.block ?_
    (repeat refine RC.seq ?_); refine RC.drawS mixed (N := 13) rfl ?_
    refine DR.take 0 rfl (by repeat (first | exact List.nil_sublist _ | exact List.Sublist.refl _ | apply List.Sublist.cons_cons | apply List.Sublist.cons)) inferInstance (by kernel_rfl) (by kernel_rfl) (by kernel_rfl) (by kernel_rfl) rfl rfl (Wanted.plain rfl) (Val.of rfl) ?_
    refine DR.take 1 rfl (by repeat (first | exact List.nil_sublist _ | exact List.Sublist.refl _ | apply List.Sublist.cons_cons | apply List.Sublist.cons)) inferInstance (by kernel_rfl) (by kernel_rfl) (by kernel_rfl) (by kernel_rfl) rfl rfl (Wanted.plain rfl) (Val.of rfl) ?_
    refine DR.take 2 rfl (by repeat (first | exact List.nil_sublist _ | exact List.Sublist.refl _ | apply List.Sublist.cons_cons | apply List.Sublist.cons)) inferInstance (by kernel_rfl) (by kernel_rfl) (by kernel_rfl) (by kernel_rfl) rfl rfl (Wanted.plain rfl) (Val.ar rfl rfl rfl rfl (by dsimp only [inK]; omega)) ?_
    refine DR.take 3 rfl (by repeat (first | exact List.nil_sublist _ | exact List.Sublist.refl _ | apply List.Sublist.cons_cons | apply List.Sublist.cons)) inferInstance (by kernel_rfl) (by kernel_rfl) (by kernel_rfl) (by kernel_rfl) rfl rfl (Wanted.plain rfl) (Val.eq (Val.ixStr tabOk (2 * i) (a := s) rfl rfl rfl rfl rfl (by omega) (by omega) hs) (show _ = Value.int .u8 (c0 : Nat) from by rw [hs0])) ?_
    refine DR.take 5 rfl (by repeat (first | exact List.nil_sublist _ | exact List.Sublist.refl _ | apply List.Sublist.cons_cons | apply List.Sublist.cons)) inferInstance (by kernel_rfl) (by kernel_rfl) (by kernel_rfl) (by kernel_rfl) rfl rfl (Wanted.plain rfl) (Val.of rfl) ?_
    refine DR.take 6 rfl (by repeat (first | exact List.nil_sublist _ | exact List.Sublist.refl _ | apply List.Sublist.cons_cons | apply List.Sublist.cons)) inferInstance (by kernel_rfl) (by kernel_rfl) (by kernel_rfl) (by kernel_rfl) rfl rfl (Wanted.plain rfl) (Val.of rfl) ?_
    refine DR.take 7 rfl (by repeat (first | exact List.nil_sublist _ | exact List.Sublist.refl _ | apply List.Sublist.cons_cons | apply List.Sublist.cons)) inferInstance (by kernel_rfl) (by kernel_rfl) (by kernel_rfl) (by kernel_rfl) rfl rfl (Wanted.plain rfl) (Val.ar rfl rfl rfl rfl (by dsimp only [inK]; omega)) ?_
    refine DR.take 8 rfl (by repeat (first | exact List.nil_sublist _ | exact List.Sublist.refl _ | apply List.Sublist.cons_cons | apply List.Sublist.cons)) inferInstance (by kernel_rfl) (by kernel_rfl) (by kernel_rfl) (by kernel_rfl) rfl rfl (Wanted.plain rfl) (Val.ar rfl rfl rfl rfl (by dsimp only [inK]; omega)) ?_
    refine DR.take 9 rfl (by repeat (first | exact List.nil_sublist _ | exact List.Sublist.refl _ | apply List.Sublist.cons_cons | apply List.Sublist.cons)) inferInstance (by kernel_rfl) (by kernel_rfl) (by kernel_rfl) (by kernel_rfl) rfl rfl (Wanted.plain rfl) (Val.eq (Val.ixStr tabOk (2 * i + 1) (a := s) rfl rfl rfl rfl rfl (by omega) (by omega) hs) (show _ = Value.int .u8 (c1 : Nat) from by rw [hs1])) ?_
    refine DR.one (i := 4) (by kernel_rfl) ?_
    refine DOp.op rfl (Wanted.plain rfl) (OpTo.callV Tryd.func29 rfl rfl rfl rfl rfl rfl (fun w _ => Digit_calls c0 hc0 w)) (.inl fun _ => by repeat (first | exact List.nil_sublist _ | exact List.Sublist.refl _ | apply List.Sublist.cons_cons | apply List.Sublist.cons)) (fun _ => ?_)
    refine DR.one (i := 10) (by kernel_rfl) ?_
    refine DOp.op rfl (Wanted.plain rfl) (OpTo.callV Tryd.func29 rfl rfl rfl rfl rfl rfl (fun w _ => Digit_calls c1 hc1 w)) (.inl fun _ => by repeat (first | exact List.nil_sublist _ | exact List.Sublist.refl _ | apply List.Sublist.cons_cons | apply List.Sublist.cons)) (fun _ => ?_)
    refine DR.take 11 rfl (by repeat (first | exact List.nil_sublist _ | exact List.Sublist.refl _ | apply List.Sublist.cons_cons | apply List.Sublist.cons)) inferInstance (by kernel_rfl) (by kernel_rfl) (by kernel_rfl) (by kernel_rfl) rfl rfl (Wanted.plain rfl) (Val.of rfl) ?_
    refine DR.take 12 rfl (by repeat (first | exact List.nil_sublist _ | exact List.Sublist.refl _ | apply List.Sublist.cons_cons | apply List.Sublist.cons)) inferInstance (by kernel_rfl) (by kernel_rfl) (by kernel_rfl) (by kernel_rfl) rfl rfl (Wanted.plain rfl) (Val.of rfl) ?_
    refine DR.done (by kernel_rfl) (RQ.next ?_)
    refine RC.seq ?_
    refine RC.seqCut (Y := Unit) (fun _ => [(32, .bool (decide (dig c0 < 0 ∨ dig c1 < 0))), (7, .int .i64 (dig c1)), (6, .int .i64 (dig c0)), (5, .int .i64 i), (4, .pointer (some ⟨b4, 0, none⟩)), (2, .pointer (some ⟨b2, 0, none⟩)), (0, .string (bs s))])
      (fun _ => [(b4, .cells (u8s (prs s i)).toArray 23 (0, 0)), (b2, .cells ti23.zero.cells 23 (0, 0))]) (RC.region ?_) (fun _ => ?_)
    · refine Run.v rfl rfl rfl (Val.of rfl) ?_
      refine Run.v rfl rfl rfl (Val.of rfl) ?_
      refine Run.v rfl rfl rfl (Val.of rfl) ?_
      refine Run.split 29 rfl (fun h => ?_) (fun h => ?_)
      · have h1 := of_decide_eq_true h
        refine Run.skipG (Wanted.guard rfl rfl rfl rfl) rfl rfl ?_
        refine Run.skipG (Wanted.guard rfl rfl rfl rfl) rfl rfl ?_
        refine Run.v rfl rfl rfl (Val.of rfl) ?_
        exact Run.nil (RQ.to () ⟨by show some (Value.bool true) = _; congr 2; exact (decide_eq_true (.inl h1)).symm, rfl, rfl, rfl, rfl, rfl, rfl, trivial⟩ (List.Sublist.refl _))
      · have h1 := of_decide_eq_false h
        refine Run.vG (Wanted.guard rfl rfl rfl rfl) rfl rfl (Val.of rfl) ?_
        refine Run.vG (Wanted.guard rfl rfl rfl rfl) rfl rfl (Val.of rfl) ?_
        refine Run.v rfl rfl rfl (Val.of rfl) ?_
        exact Run.nil (RQ.to () ⟨by show some (Value.bool (decide (dig c1 < 0))) = _; congr 3; rw [eq_iff_iff]; exact ⟨.inr, fun h => h.resolve_left h1⟩, rfl, rfl, rfl, rfl, rfl, rfl, trivial⟩ (List.Sublist.refl _))
    (repeat refine RC.seq ?_); refine RC.cond rfl (fun h => ?_) (fun h => ?_)
    · have hd := of_decide_eq_true h
      have hok : readOk s = false := hd.elim hn0 hn1
      have hz : readH s = List.replicate 8 0 := by unfold readH; rw [hok]; rfl
      rw [hok, hz]
      (repeat refine RC.seq ?_); refine RC.region ?_
      refine Run.v rfl rfl rfl (Val.buildA tabOk (parts := []) (cells := (u8s (List.replicate 8 0)).toArray) rfl rfl rfl rfl rfl rfl) ?_
      refine Run.storeAll tabOk rfl rfl rfl rfl rfl rfl p1 rfl rfl (fun u hu => u8s_one _ u (by simpa [Value.cells] using hu)) ?_
      refine Run.v rfl rfl rfl (Val.of rfl) ?_
      refine Run.nil (RQ.next ?_)
      refine RC.ret ?_; (repeat first | refine RQ.thenRet ?_ | refine RQ.blockRet ?_)
      exact RQ.ret2 rfl (Res.cellAll tabOk rfl rfl rfl m0 rfl) (Res.tmp rfl) fun w' hm => ⟨rfl, hm.fr⟩
    have hd := of_decide_eq_false h
    have e0 : 0 ≤ dig c0 := by omega
    have e1 : 0 ≤ dig c1 := by omega
    have g0 := hd0 e0
    have g1 := hd1 e1
    have hall := hall' e0 e1
    clear h hall'
    refine RC.skip (RQ.next ?_)
    refine RC.region ?_
    refine Run.v rfl rfl rfl (Val.of rfl) ?_
    refine Run.v rfl rfl rfl (Val.of rfl) ?_
    refine Run.v rfl rfl rfl (Val.ar rfl rfl rfl rfl (by dsimp only [inK]; omega)) ?_
    refine Run.v rfl rfl rfl (Val.of rfl) ?_
    refine Run.v rfl rfl rfl (Val.ar rfl rfl rfl rfl (by dsimp only [inK]; omega)) ?_
    refine Run.v rfl rfl rfl (Val.eq (Val.conv tabOk rfl rfl rfl rfl rfl rfl) (show _ = Value.int .u8 ((16 * digN c0 + digN c1 : Nat) : Int) from congrArg (Value.int .u8) (by rw [wrap_u8, g0, g1]; omega))) ?_
    refine Run.v rfl rfl rfl (Val.ix tabOk i (off' := i) rfl rfl rfl rfl rfl rfl rfl hi' (by simp [ti5])) ?_
    refine Run.storeTo tabOk (arr' := (u8s (prs s (i + 1))).toArray) (by rw [← hset]; exact u8s_set _ _ _ (by rw [prs_len]; omega)) rfl rfl rfl rfl rfl rfl (List.Perm.refl _) rfl (by simp [u8s_len, prs_len, ti5]; omega) (by simp [Value.cells]; rfl) ?_
    refine Run.nil (RQ.blockNormal (RQ.next ?_))
    refine RC.region ?_
    repeat (first | refine Run.v rfl rfl rfl (Val.ar rfl rfl rfl rfl (by dsimp only [inK]; omega)) ?_ | refine Run.v rfl rfl rfl (Val.of rfl) ?_)
    exact Run.nil (RQ.up (i + 1) () (Nat.lt_succ_self _) hi' hall ⟨rfl, rfl, rfl, rfl, trivial⟩ (List.Sublist.refl _))
  · have hi' : i = 8 := by have := of_decide_eq_false h; omega
    subst hi'
    have hok := readOk_of s hl16 hall
    have hz : readH s = prs s 8 := by unfold readH; rw [if_pos hok, prs_all]
    rw [hok, hz]
    have hnl := prs_len s 8
    generalize prs s 8 = r at *
    have hsz : (u8s r).toArray.size = 8 := by simp [u8s_len, hnl]
    (repeat refine RQ.thenExit ?_); refine RQ.blockHere ?_
    refine RQ.next ?_
    (repeat refine RC.seq ?_); refine RC.region ?_
    refine Run.v rfl rfl rfl (Val.loadAll tabOk rfl rfl rfl rfl m0 hsz) ?_
    refine Run.storeAll (arr := ti23.zero.cells) tabOk rfl rfl rfl rfl rfl rfl p1 hsz rfl (fun u hu => u8s_one _ u (by simpa [Value.cells] using hu)) ?_
    refine Run.v rfl rfl rfl (Val.of rfl) ?_
    refine Run.nil (RQ.next ?_)
    refine RC.ret ?_; (repeat first | refine RQ.thenRet ?_ | refine RQ.blockRet ?_)
    exact RQ.ret2 rfl (Res.cellAll tabOk rfl rfl rfl m0 hsz) (Res.tmp rfl) fun w' hm => ⟨rfl, hm.fr⟩

theorem hexB_split (x : Nat) (h : x < 256) : ((hexD.drop (x / 16)).take (x / 16 + 1 - x / 16)) ++ ((hexD.drop (x % 16)).take (x % 16 + 1 - x % 16)) = hexB x := by
  have e : ∀ k, k < 16 → (hexD.drop k).take (k + 1 - k) = [hexD.getD k 0] := by
    intro k hk
    exact (by decide : ∀ k : Fin 16, (hexD.drop k.val).take (k.val + 1 - k.val) = [hexD.getD k.val 0]) ⟨k, hk⟩
  rw [e _ (by omega), e _ (by omega)]
  rfl

theorem ref_Text_calls (a : List Nat) (ha : a.length = 8) (ha' : ∀ x ∈ a, x < 256) (w : World) :
    Gives Tryd.prog 21 [.agg (u8s a).toArray] (.string (bs (hex a))) w := by
  refine enter Tryd.func21 rfl (Mem.nil w []) rfl ?_
  (repeat refine RC.seq ?_); refine RC.region ?_
  refine Run.mk rfl rfl rfl (New.boxA rfl rfl) ?_
  intro b1
  refine Run.v rfl rfl rfl (Val.of rfl) ?_
  refine Run.nil (RQ.next ?_)
  (repeat refine RC.seq ?_); refine RC.region ?_
  refine Run.v rfl rfl rfl (Val.of rfl) ?_
  refine Run.nil (RQ.next ?_)
  (repeat refine RC.seq ?_); refine RC.region ?_
  refine Run.v rfl rfl rfl (Val.of rfl) ?_
  refine Run.nil (RQ.next ?_)
  (repeat refine RC.seq ?_); refine RC.block ?_
  refine RC.up 8 (D := Unit) (fun i _ => True)
    (fun i _ => [(4, .int .i64 i), (3, .string (bs (hex (a.take i)))), (1, .pointer (some ⟨b1, 0, none⟩))])
    (fun i _ => [(b1, .cells (u8s a).toArray 23 (0, 0))])
    0 () (Nat.zero_le _) trivial ⟨rfl, rfl, rfl, trivial⟩ (List.Sublist.refl _) ?_
  intro i _ hi _
  (repeat refine RC.seq ?_); refine RC.region ?_
  repeat (refine Run.v rfl rfl rfl (Val.of rfl) ?_)
  refine Run.nil (RQ.next ?_)
  (repeat refine RC.seq ?_); refine RC.wh rfl (fun h => RQ.next ?_) (fun h => ?_)
  · have hi' : i < 8 := by have := of_decide_eq_true h; omega
    have hx := getD_lt ha' i
    have hat := u8s_arr a i (by omega)
    have hsu := hex_take_succ a i (by omega)
    have hlen : (hex (a.take i)).length = 2 * i := by rw [hex_len, List.length_take]; omega
    generalize a.getD i 0 = x at *
    have hsp := hexB_split x hx
    (repeat refine RC.seq ?_); refine RC.block ?_
    (repeat refine RC.seq ?_); refine RC.drawS mixed (N := 24) rfl ?_
    refine DR.take 0 rfl (by repeat (first | exact List.nil_sublist _ | exact List.Sublist.refl _ | apply List.Sublist.cons_cons | apply List.Sublist.cons)) inferInstance (by kernel_rfl) (by kernel_rfl) (by kernel_rfl) (by kernel_rfl) rfl rfl (Wanted.plain rfl) (Val.of rfl) ?_
    refine DR.take 1 rfl (by repeat (first | exact List.nil_sublist _ | exact List.Sublist.refl _ | apply List.Sublist.cons_cons | apply List.Sublist.cons)) inferInstance (by kernel_rfl) (by kernel_rfl) (by kernel_rfl) (by kernel_rfl) rfl rfl (Wanted.plain rfl) (Val.of rfl) ?_
    refine DR.take 2 rfl (by repeat (first | exact List.nil_sublist _ | exact List.Sublist.refl _ | apply List.Sublist.cons_cons | apply List.Sublist.cons)) inferInstance (by kernel_rfl) (by kernel_rfl) (by kernel_rfl) (by kernel_rfl) rfl rfl (Wanted.plain rfl) (Val.ix tabOk i (off' := i) rfl rfl rfl rfl rfl rfl rfl hi' (by simp [ti5])) ?_
    refine DR.take 3 rfl (by repeat (first | exact List.nil_sublist _ | exact List.Sublist.refl _ | apply List.Sublist.cons_cons | apply List.Sublist.cons)) inferInstance (by kernel_rfl) (by kernel_rfl) (by kernel_rfl) (by kernel_rfl) rfl rfl (Wanted.plain rfl) (Val.load tabOk rfl rfl rfl m0 hat) ?_
    refine DR.take 4 rfl (by repeat (first | exact List.nil_sublist _ | exact List.Sublist.refl _ | apply List.Sublist.cons_cons | apply List.Sublist.cons)) inferInstance (by kernel_rfl) (by kernel_rfl) (by kernel_rfl) (by kernel_rfl) rfl rfl (Wanted.plain rfl) (Val.shr (m := 4) rfl rfl rfl (by decide)) ?_
    refine DR.take 5 rfl (by repeat (first | exact List.nil_sublist _ | exact List.Sublist.refl _ | apply List.Sublist.cons_cons | apply List.Sublist.cons)) inferInstance (by kernel_rfl) (by kernel_rfl) (by kernel_rfl) (by kernel_rfl) rfl rfl (Wanted.plain rfl) (Val.of rfl) ?_
    refine DR.take 6 rfl (by repeat (first | exact List.nil_sublist _ | exact List.Sublist.refl _ | apply List.Sublist.cons_cons | apply List.Sublist.cons)) inferInstance (by kernel_rfl) (by kernel_rfl) (by kernel_rfl) (by kernel_rfl) rfl rfl (Wanted.plain rfl) (Val.ix tabOk i (off' := i) rfl rfl rfl rfl rfl rfl rfl hi' (by simp [ti5])) ?_
    refine DR.take 7 rfl (by repeat (first | exact List.nil_sublist _ | exact List.Sublist.refl _ | apply List.Sublist.cons_cons | apply List.Sublist.cons)) inferInstance (by kernel_rfl) (by kernel_rfl) (by kernel_rfl) (by kernel_rfl) rfl rfl (Wanted.plain rfl) (Val.load tabOk rfl rfl rfl m0 hat) ?_
    refine DR.take 8 rfl (by repeat (first | exact List.nil_sublist _ | exact List.Sublist.refl _ | apply List.Sublist.cons_cons | apply List.Sublist.cons)) inferInstance (by kernel_rfl) (by kernel_rfl) (by kernel_rfl) (by kernel_rfl) rfl rfl (Wanted.plain rfl) (Val.shr (m := 4) rfl rfl rfl (by decide)) ?_
    refine DR.take 9 rfl (by repeat (first | exact List.nil_sublist _ | exact List.Sublist.refl _ | apply List.Sublist.cons_cons | apply List.Sublist.cons)) inferInstance (by kernel_rfl) (by kernel_rfl) (by kernel_rfl) (by kernel_rfl) rfl rfl (Wanted.plain rfl) (Val.ar rfl rfl rfl rfl (by dsimp only [inK]; omega)) ?_
    refine DR.take 10 rfl (by repeat (first | exact List.nil_sublist _ | exact List.Sublist.refl _ | apply List.Sublist.cons_cons | apply List.Sublist.cons)) inferInstance (by kernel_rfl) (by kernel_rfl) (by kernel_rfl) (by kernel_rfl) rfl rfl (Wanted.plain rfl) (Val.sliceStr tabOk (x / 16) (x / 16 + 1) (a := hexD) rfl rfl rfl rfl rfl rfl rfl (by omega) (by omega) (by show _ ≤ 16; omega)) ?_
    refine DR.take 11 rfl (by repeat (first | exact List.nil_sublist _ | exact List.Sublist.refl _ | apply List.Sublist.cons_cons | apply List.Sublist.cons)) inferInstance (by kernel_rfl) (by kernel_rfl) (by kernel_rfl) (by kernel_rfl) rfl rfl (Wanted.plain rfl) (Val.addStr rfl rfl rfl (by simp [hlen]; omega)) ?_
    refine DR.take 12 rfl (by repeat (first | exact List.nil_sublist _ | exact List.Sublist.refl _ | apply List.Sublist.cons_cons | apply List.Sublist.cons)) inferInstance (by kernel_rfl) (by kernel_rfl) (by kernel_rfl) (by kernel_rfl) rfl rfl (Wanted.plain rfl) (Val.of rfl) ?_
    refine DR.take 13 rfl (by repeat (first | exact List.nil_sublist _ | exact List.Sublist.refl _ | apply List.Sublist.cons_cons | apply List.Sublist.cons)) inferInstance (by kernel_rfl) (by kernel_rfl) (by kernel_rfl) (by kernel_rfl) rfl rfl (Wanted.plain rfl) (Val.ix tabOk i (off' := i) rfl rfl rfl rfl rfl rfl rfl hi' (by simp [ti5])) ?_
    refine DR.take 14 rfl (by repeat (first | exact List.nil_sublist _ | exact List.Sublist.refl _ | apply List.Sublist.cons_cons | apply List.Sublist.cons)) inferInstance (by kernel_rfl) (by kernel_rfl) (by kernel_rfl) (by kernel_rfl) rfl rfl (Wanted.plain rfl) (Val.load tabOk rfl rfl rfl m0 hat) ?_
    refine DR.take 15 rfl (by repeat (first | exact List.nil_sublist _ | exact List.Sublist.refl _ | apply List.Sublist.cons_cons | apply List.Sublist.cons)) inferInstance (by kernel_rfl) (by kernel_rfl) (by kernel_rfl) (by kernel_rfl) rfl rfl (Wanted.plain rfl) (Val.eq (Val.of rfl) (congrArg (Value.int .u8) (u8_and15 x hx))) ?_
    refine DR.take 16 rfl (by repeat (first | exact List.nil_sublist _ | exact List.Sublist.refl _ | apply List.Sublist.cons_cons | apply List.Sublist.cons)) inferInstance (by kernel_rfl) (by kernel_rfl) (by kernel_rfl) (by kernel_rfl) rfl rfl (Wanted.plain rfl) (Val.of rfl) ?_
    refine DR.take 17 rfl (by repeat (first | exact List.nil_sublist _ | exact List.Sublist.refl _ | apply List.Sublist.cons_cons | apply List.Sublist.cons)) inferInstance (by kernel_rfl) (by kernel_rfl) (by kernel_rfl) (by kernel_rfl) rfl rfl (Wanted.plain rfl) (Val.ix tabOk i (off' := i) rfl rfl rfl rfl rfl rfl rfl hi' (by simp [ti5])) ?_
    refine DR.take 18 rfl (by repeat (first | exact List.nil_sublist _ | exact List.Sublist.refl _ | apply List.Sublist.cons_cons | apply List.Sublist.cons)) inferInstance (by kernel_rfl) (by kernel_rfl) (by kernel_rfl) (by kernel_rfl) rfl rfl (Wanted.plain rfl) (Val.load tabOk rfl rfl rfl m0 hat) ?_
    refine DR.take 19 rfl (by repeat (first | exact List.nil_sublist _ | exact List.Sublist.refl _ | apply List.Sublist.cons_cons | apply List.Sublist.cons)) inferInstance (by kernel_rfl) (by kernel_rfl) (by kernel_rfl) (by kernel_rfl) rfl rfl (Wanted.plain rfl) (Val.eq (Val.of rfl) (congrArg (Value.int .u8) (u8_and15 x hx))) ?_
    refine DR.take 20 rfl (by repeat (first | exact List.nil_sublist _ | exact List.Sublist.refl _ | apply List.Sublist.cons_cons | apply List.Sublist.cons)) inferInstance (by kernel_rfl) (by kernel_rfl) (by kernel_rfl) (by kernel_rfl) rfl rfl (Wanted.plain rfl) (Val.ar rfl rfl rfl rfl (by dsimp only [inK]; omega)) ?_
    refine DR.take 21 rfl (by repeat (first | exact List.nil_sublist _ | exact List.Sublist.refl _ | apply List.Sublist.cons_cons | apply List.Sublist.cons)) inferInstance (by kernel_rfl) (by kernel_rfl) (by kernel_rfl) (by kernel_rfl) rfl rfl (Wanted.plain rfl) (Val.sliceStr tabOk (x % 16) (x % 16 + 1) (a := hexD) rfl rfl rfl rfl rfl rfl rfl (by omega) (by omega) (by show _ ≤ 16; omega)) ?_
    refine DR.take 22 rfl (by repeat (first | exact List.nil_sublist _ | exact List.Sublist.refl _ | apply List.Sublist.cons_cons | apply List.Sublist.cons)) inferInstance (by kernel_rfl) (by kernel_rfl) (by kernel_rfl) (by kernel_rfl) rfl rfl (Wanted.plain rfl) (Val.eq (Val.addStr rfl rfl rfl (by simp [hlen]; omega)) (show _ = Value.string (bs (hex (a.take (i + 1)))) from by rw [List.append_assoc, hsp, ← hsu])) ?_
    refine DR.take 23 rfl (by repeat (first | exact List.nil_sublist _ | exact List.Sublist.refl _ | apply List.Sublist.cons_cons | apply List.Sublist.cons)) inferInstance (by kernel_rfl) (by kernel_rfl) (by kernel_rfl) (by kernel_rfl) rfl rfl (Wanted.plain rfl) (Val.of rfl) ?_
    refine DR.done (by kernel_rfl) (RQ.blockNormal (RQ.next ?_))
    refine RC.region ?_
    repeat (first | refine Run.v rfl rfl rfl (Val.ar rfl rfl rfl rfl (by dsimp only [inK]; omega)) ?_ | refine Run.v rfl rfl rfl (Val.of rfl) ?_)
    exact Run.nil (RQ.up (i + 1) () (Nat.lt_succ_self _) hi' trivial ⟨rfl, rfl, rfl, trivial⟩ (List.Sublist.refl _))
  · have hi' : i = 8 := by have := of_decide_eq_false h; omega
    subst hi'
    rw [List.take_of_length_le (by omega)]
    (repeat refine RQ.thenExit ?_); refine RQ.blockHere ?_
    refine RQ.next ?_
    (repeat refine RC.seq ?_); refine RC.region ?_
    refine Run.v rfl rfl rfl (Val.of rfl) ?_
    refine Run.v rfl rfl rfl (Val.of rfl) ?_
    refine Run.nil (RQ.next ?_)
    refine RC.ret ?_; (repeat first | refine RQ.thenRet ?_ | refine RQ.blockRet ?_); exact RQ.ret1 rfl (Res.tmp rfl) fun w' hm => ⟨rfl, hm.fr⟩
end Go.Proofs.YtigfcafpoegnjaaDoor
