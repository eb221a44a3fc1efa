/- Lemmas. -/
import Derived.Test.YtkkfaffehbjdgaaGreatDoorPk34
set_option linter.unusedSimpArgs false
set_option linter.unusedVariables false
section
/- cert: CertMoney. -/
namespace Go.Proofs.YtkkfaffehbjdgaaGreatDoor
attribute [local irreducible] Go.Vc.Run Go.Vc.RC Go.Vc.RQ Go.Vc.DR Go.Vc.DOp Go.Vc.Knows Go.Vc.At
set_option maxHeartbeats 400000
set_option maxRecDepth 10000
open Go Go.Vc Go.Sha
def u16s (l : List Nat) : List Value := l.map fun z : Nat => .int .u16 (z : Int)
/-- Amounts, each one more. -/
def amsU (l : List Nat) : List Int := l.map fun z : Nat => 1 + (z : Int)
theorem amsU_succ {l : List Nat} {k z : Nat} (h : l[k]? = some z) : amsU (l.take (k + 1)) = amsU (l.take k) ++ [1 + (z : Int)] := by
  unfold amsU
  rw [List.take_add_one, h, List.map_append]
  rfl
theorem amsU_in {l : List Nat} (h : ∀ z ∈ l, z < 65536) : ∀ a ∈ amsU l, 1 ≤ a ∧ a ≤ 100000 := by
  intro a ha
  obtain ⟨z, hz, rfl⟩ := List.mem_map.1 ha
  have := h z hz
  omega
theorem amsU_sum {l : List Nat} {k z : Nat} (h : l[k]? = some z) : (amsU (l.take (k + 1))).sum = (amsU (l.take k)).sum + 1 + (z : Int) := by
  rw [amsU_succ h, List.sum_append, List.sum_cons, List.sum_nil]
  omega
theorem plan_one (sd ep ql : Int) (bd : Nat) {va vw : Value} (h1 : va.oneCell' = true) (h2 : vw.oneCell' = true) : ∀ u ∈ planC sd ep ql va vw bd, u.oneCell' = true := by
  intro u hu
  simp only [planC, List.mem_cons, List.not_mem_nil, or_false] at hu
  rcases hu with rfl | rfl | rfl | rfl | rfl | rfl
  all_goals first | rfl | assumption
set_option maxRecDepth 10000 in set_option maxHeartbeats 4000000 in
theorem CertMoney_calls (m : Nat) (hm6 : m < 65536) (l : List Nat) (hl : ∀ z ∈ l, z < 65536) (hll : l.length ≤ 9223372036854775807) (v : Value) (w : World) (hs : SrcW w 1 v l.length (u16s l)) (hK : Laid w) : Gives Tryz.prog 5 [.int .u16 m, v] (.bool true) w := by
  refine enter Tryz.func5 rfl (Mem.nil w []) rfl ?_
  obtain ⟨va, vc, rfl, hvc⟩ := hs.shape
  refine x_ ?_
  refine Run.op1 (OpTo.cv Tryz.func7 (fun w' hm => c14awake_calls w' (hK.fr hm.fr (by simp)))) (fun _ => ?_)
  by_cases h16 : 16 < l.length
  · refine x_ ?_
    exact RQ.ret1 rfl (Res.tmp rfl) fun w' hm => ⟨rfl, hm.fr⟩
  refine x_ ?_
  obtain ⟨n, hn⟩ : ∃ n : Int, n = 1 + (m : Int) := ⟨_, rfl⟩
  rw [← hn]
  refine Run.nw (nbsk (parts := [(0, .tmp 26)]) #[.int .i64 n]) ?_
  intro b21
  refine x_ ?_
  have hz0 : ([(b21, Obj.cells #[.int .i64 n] 3 (0, 0))] : Hp).Perm ([] ++ [(b21, Obj.cells #[.int .i64 n] 3 (0, 0))]) := List.Perm.refl _
  refine Run.op1 (OpTo.callT Tryz.func8 hz0 (fun w' hm => FillK_calls n (by omega) _ w' (SrcW.row (cs := i64L [n]) hm m0 rfl (Nat.le_refl 1)))) ?_
  intro y
  refine x_ ?_
  refine Run.nw (nbsk (parts := [(0, .const (.int .u8 0)), (1, .const (.int .u8 1)), (2, .const (.int .u8 2))]) #[.int .u8 0, .int .u8 1, .int .u8 2]) ?_
  intro b33
  refine x_ ?_
  refine Run.a (vbs (planC 0 0 ((1 : Nat) : Int) (.slice none 0 0) (.slice (some ⟨b33, 0, none⟩) 3 3) 0).toArray) ?_
  refine x_ ?_
  refine Run.nw nal ?_
  intro b8
  refine x_ ?_
  refine Run.op1 (osa (arr := ti39.zero.cells) (planC 0 0 ((1 : Nat) : Int) (.slice none 0 0) (.slice (some ⟨b33, 0, none⟩) 3 3) 0).toArray (plan_one _ _ _ _ rfl rfl)) (fun _ => ?_)
  refine x_ ?_
  refine RC.up l.length (D := (Option Addr × Nat) × Hp) (fun k d => Own 3 1 (.slice d.1.1 k d.1.2) k (i64L (amsU (l.take k))) d.2) (fun k d => [(10, .int .i64 k), (9, .int .i64 (amsU (l.take k)).sum), (8, .pointer (some ⟨b8, 0, none⟩)), (6, .pointer (some ⟨y.b, 0, none⟩)), (5, .int .i64 n), (1, .slice va l.length vc)]) (fun k d => (b8, Obj.cells (planC 0 0 ((1 : Nat) : Int) (.slice d.1.1 k d.1.2) (.slice (some ⟨b33, 0, none⟩) 3 3) 0).toArray 39 (0, 0)) :: (d.2 ++ ((b33, Obj.cells #[.int .u8 0, .int .u8 1, .int .u8 2] 5 (0, 0)) :: y.L))) 0 ((none, 0), []) (Nat.zero_le _) Own.nil ⟨rfl, rfl, rfl, rfl, rfl, rfl, trivial⟩ (by exact List.Sublist.cons_cons _ (List.Sublist.cons_cons _ (List.sublist_append_left _ _))) ?_
  rintro k ⟨⟨xa, xc⟩, xl⟩ hk hown
  dsimp only at hown ⊢
  have hsm := sum_le (amsU (l.take k)) fun a ha => by
    have := amsU_in (l := l.take k) (fun z hz => hl z (List.mem_of_mem_take hz)) a ha
    omega
  have hal : (amsU (l.take k)).length ≤ 16 := by unfold amsU; rw [List.length_map, List.length_take]; omega
  by_cases hk' : k < l.length
  · obtain ⟨z, hx⟩ : ∃ z, l[k]? = some z := ⟨_, List.getElem?_eq_getElem hk'⟩
    obtain ⟨ad, c', hv', hc', hcl, hr⟩ := hs.pos (by omega)
    cases hv'
    have hz6 := hl z (List.mem_of_getElem? hx)
    have hcx : w.cell? (ad.add (k * 1)) = some (.int .u16 z) := by
      rw [Nat.mul_one]
      exact hr k _ (by unfold u16s; rw [List.getElem?_map, hx]; rfl)
    have hst := amsU_sum hx
    have hsu := amsU_succ hx
    generalize (amsU (l.take k)).sum = s at hsm hst ⊢
    have r3 : rdAt ti28 (planC 0 0 ((1 : Nat) : Int) (.slice xa k xc) (.slice (some ⟨b33, 0, none⟩) 3 3) 0).toArray 3 = some (.slice xa k xc) := rd_one rfl rfl
    obtain ⟨PL, hPL⟩ : ∃ PL, PL = planC 0 0 ((1 : Nat) : Int) (.slice xa k xc) (.slice (some ⟨b33, 0, none⟩) 3 3) 0 := ⟨_, rfl⟩
    rw [← hPL] at r3 ⊢
    have hP6 : PL.toArray.size = 6 := by rw [hPL]; rfl
    have hw3 : ∀ x, wrAt PL.toArray 3 [x] = (planC 0 0 ((1 : Nat) : Int) x (.slice (some ⟨b33, 0, none⟩) 3 3) 0).toArray := fun x => by rw [hPL]; rfl
    refine x_ ?_
    (repeat refine RC.seq ?_); refine RC.draw ([(b8, Obj.cells PL.toArray 39 (0, 0))]) mixed (N := 12) rfl ?_
    refine dy 0 ?_
    refine dy 1 ?_
    refine dy 2 ?_
    refine dy 3 ?_
    refine DR.t 4 rfl (vixA) ?_
    refine dy 5 ?_
    refine dy 6 ?_
    refine dy 7 ?_
    refine DR.c 8 ?_
    refine DOp.op1 rfl (OpTo.new rfl rfl (nbsk (parts := [(0, .tmp 48)]) #[.int .i64 (1 + (z : Int))])) ?_
    intro b49
    refine DR.c 9 (DOp.op1 rfl (OpTo.append (L1 := (b49, Obj.cells #[.int .i64 (1 + (z : Int))] 3 (0, 0)) :: ((b8, Obj.cells PL.toArray 39 (0, 0)) :: ((b33, Obj.cells #[.int .u8 0, .int .u8 1, .int .u8 2] 5 (0, 0)) :: y.L))) tabOk hown (Src.at ⟨b49, 0, none⟩ 1 1 [.int .i64 (1 + (z : Int))] rfl (Rd.rowAll m0)) rfl rfl rfl rfl rfl rfl rfl rfl rfl (perm_of fun f => by (simp only [List.map_append, List.map_cons, List.map_nil, List.sum_append, List.sum_cons, List.sum_nil] <;> omega)) (by intro u hu; rw [List.mem_singleton] at hu; subst hu; rfl) (by unfold maxLen; omega) (by simp only [ti3]; omega)) ?_)
    rintro ⟨⟨v15, l15⟩, h15⟩
    dsimp only at h15 ⊢
    obtain ⟨xa2, xc2, rfl, hxc2⟩ := h15.shape
    refine dy 10 ?_
    refine DR.c 11 ?_
    refine DOp.op1 rfl (ostE (arr := PL.toArray) (e := 39) (L' := l15 ++ ((b49, Obj.cells #[.int .i64 (1 + (z : Int))] 3 (0, 0)) :: ((b33, Obj.cells #[.int .u8 0, .int .u8 1, .int .u8 2] 5 (0, 0)) :: y.L))) (planC 0 0 ((1 : Nat) : Int) (.slice xa2 (k + 1) xc2) (.slice (some ⟨b33, 0, none⟩) 3 3) 0).toArray (hL := (perm_of fun f => by (simp only [List.map_append, List.map_cons, List.map_nil, List.sum_append, List.sum_cons, List.sum_nil] <;> omega))) (he := by exact hw3 _) (hf := by rw [hP6]; decide) (h1 := by exact one_s _ _ _)) (fun _ => ?_)
    refine DR.done (by kernel_rfl) ?_
    refine x_ ?_
    exact RQ.upP (k + 1) ((xa2, xc2), l15) (Nat.lt_succ_self _) hk' (by dsimp only; rw [hsu]; unfold i64L; rw [List.map_append]; exact h15) ⟨rfl, by rw [hst]; rfl, rfl, rfl, rfl, rfl, trivial⟩ (L1 := ((b8, Obj.cells (planC 0 0 ((1 : Nat) : Int) (.slice xa2 (k + 1) xc2) (.slice (some ⟨b33, 0, none⟩) 3 3) 0).toArray 39 (0, 0)) :: (l15 ++ ((b33, Obj.cells #[.int .u8 0, .int .u8 1, .int .u8 2] 5 (0, 0)) :: y.L))) ++ [(b49, Obj.cells #[.int .i64 (1 + (z : Int))] 3 (0, 0))]) (perm_of fun f => by (simp only [List.map_append, List.map_cons, List.map_nil, List.sum_append, List.sum_cons, List.sum_nil] <;> omega)) (List.sublist_append_left _ _)
  obtain rfl : k = l.length := by omega
  rw [List.take_length] at hown hsm hal ⊢
  refine x_ ?_
  obtain ⟨am, ham⟩ : ∃ am, am = amsU l := ⟨_, rfl⟩
  have haml : am.length = l.length := by rw [ham]; unfold amsU; rw [List.length_map]
  have hain := amsU_in hl
  rw [← ham] at hown hsm hal hain ⊢
  rw [← haml] at hown ⊢
  have h33 : ∀ {L0 : Hp} {w' : World}, Mem w [] ((b8, Obj.cells (planC 0 0 ((1 : Nat) : Int) (.slice xa am.length xc) (.slice (some ⟨b33, 0, none⟩) 3 3) 0).toArray 39 (0, 0)) :: (xl ++ ((b33, Obj.cells #[.int .u8 0, .int .u8 1, .int .u8 2] 5 (0, 0)) :: L0))) w' → SrcW w' 1 (.slice (some ⟨b33, 0, none⟩) 3 3) 3 (u8s [0, 1, 2]) := fun hm => SrcW.row (cs := u8s [0, 1, 2]) hm (List.mem_cons_of_mem _ (List.mem_append_right _ List.mem_cons_self)) rfl (Nat.le_refl 3)
  have hMk := fun w' h1 h2 => CMake_calls 0 0 1 (by decide) am (by omega) [0, 1, 2] (by decide) (by decide) 0 (.inl rfl) (.slice xa am.length xc) (.slice (some ⟨b33, 0, none⟩) 3 3) w' h1 h2
  refine Run.op1 (OpTo.callD Tryz.func10 (fun w' hm => hMk w' (hown.srcW (fun p hp => hm.has p (List.mem_cons_of_mem _ (List.mem_append_left _ hp)))) (h33 hm))) ?_
  rintro ⟨⟨⟨⟨oa, oc⟩, ⟨sa, sc⟩⟩, bl⟩, _, hk9⟩
  dsimp only at hk9 ⊢
  obtain ⟨c, hc⟩ : ∃ c, c = crtP 0 0 1 am [0, 1, 2] 0 := ⟨_, rfl⟩
  obtain ⟨ss, hss⟩ : ∃ ss, ss = sgP 0 1 am [0, 1, 2] 0 := ⟨_, rfl⟩
  have hf : CrF c ss am.length 3 := by rw [hc, hss]; exact crF 0 1 [0, 1, 2] 0 hain
  have hos := hf.os
  have hsg := hf.sg
  have hcE : ceC (crtP 0 0 1 am [0, 1, 2] 0) (.slice oa am.length oc) (.slice sa [0, 1, 2].length sc) = ceC c (.slice oa c.os.length oc) (.slice sa c.sg.length sc) := by rw [hos, hsg, ← hc]; rfl
  rw [hcE]
  have hF21 : (ceC c (.slice oa c.os.length oc) (.slice sa c.sg.length sc)).toArray.size = 21 := by rw [List.size_toArray, ceC_len]
  have hF1 := ceC_one c oa c.os.length oc sa c.sg.length sc
  have hk' : ∀ w, Has bl w → SrcW w 9 (.slice oa c.os.length oc) c.os.length (rws OutD.c c.os) ∧ SrcW w 282 (.slice sa c.sg.length sc) c.sg.length (rws SgD.c c.sg) := fun w hw => by
    have h := hk9 w hw
    rw [hos, hsg, hc]
    rw [← hc] at h
    exact ⟨by have := h.1; rw [show outsI am = c.os from by rw [hc]; rfl] at this; rw [← hc]; exact this, by rw [← hc]; exact h.2⟩
  clear hk9
  have hSm := fun w' h1 => CSum_calls c hf.am (by rw [hos]; omega) oa oc (.slice sa c.sg.length sc) w' h1
  have hpay : payS c = am.sum := by rw [hc]; exact payS_crt _ _ _ _ _ _
  rw [hpay] at hSm
  refine x_ ?_
  refine Run.nw nal ?_
  intro b11
  refine x_ ?_
  refine Run.op1 (osa (arr := ti36.zero.cells) (ceC c (.slice oa c.os.length oc) (.slice sa c.sg.length sc)).toArray hF1 (hs := by exact hF21)) (fun _ => ?_)
  refine x_ ?_
  refine Run.op1 (OpTo.cv Tryz.func13 (fun w' hm => hSm w' (hk' w' (fun p hp => hm.has p (List.mem_cons_of_mem _ (List.mem_append_left _ hp)))).1)) (fun _ => ?_)
  refine x_ ?_
  have hxd : y.x.d = ⟨rcF n, false, CeD.nul⟩ := y.hd
  obtain ⟨hxl, hHL⟩ := rcF_ln hxd (Nat.zero_le _) (Nat.zero_le _)
  obtain ⟨vv, hv⟩ : ∃ vv, vv = chkK y.x.d c 9 endB.1 ss := ⟨_, rfl⟩
  have hv9 : vv = if n < am.sum then 5 else 0 := by
    rw [hv, hxd, hc, hss, chkP (by decide) (by decide) hain (by omega) (by decide) (by decide), if_neg (by rintro (h | h); exact h (by decide); exact h rfl), if_neg (fun h => Bool.noConfusion h.1)]
    rfl
  unfold FlY.L
  obtain ⟨rs3, hrs3⟩ : ∃ r : Hp, r = (xl ++ ((b33, Obj.cells #[.int .u8 0, .int .u8 1, .int .u8 2] 5 (0, 0)) :: [])) := ⟨_, rfl⟩
  have hp1 : ((b11, Obj.cells (ceC c (.slice oa c.os.length oc) (.slice sa c.sg.length sc)).toArray 36 (0, 0)) :: (bl ++ ((b8, Obj.cells (planC 0 0 ((1 : Nat) : Int) (.slice xa am.length xc) (.slice (some ⟨b33, 0, none⟩) 3 3) 0).toArray 39 (0, 0)) :: (xl ++ ((b33, Obj.cells #[.int .u8 0, .int .u8 1, .int .u8 2] 5 (0, 0)) :: (KW y.b y.bb y.cap y.rest y.x ++ (y.pool ++ (y.rst.L ++ y.rpool))))))) : Hp).Perm ((KW y.b y.bb y.cap y.rest y.x ++ (bl ++ y.pool)) ++ ((b11, Obj.cells (ceC c (.slice oa c.os.length oc) (.slice sa c.sg.length sc)).toArray 36 (0, 0)) :: ((b8, Obj.cells (planC 0 0 ((1 : Nat) : Int) (.slice xa am.length xc) (.slice (some ⟨b33, 0, none⟩) 3 3) 0).toArray 39 (0, 0)) :: (xl ++ ((b33, Obj.cells #[.int .u8 0, .int .u8 1, .int .u8 2] 5 (0, 0)) :: (y.rst.L ++ y.rpool)))))) := (perm_of fun f => by (simp only [List.map_append, List.map_cons, List.map_nil, List.sum_append, List.sum_cons, List.sum_nil] <;> omega))
  have hT := fun w' h1 h2 h3 h4 => TakeK_calls y.x hxl hHL hf (by omega) (by decide) oa oc sa sc 9 endB.1 rfl y.b y.bb y.cap y.rest w' y.hcap (ap := bl ++ y.pool) (fun w hw => ⟨y.hok w hw.right, hk' w hw.left⟩) h1 h2 h3 h4
  rw [← hv] at hT
  have kE : Knows Tryz.prog w 11 [] (.agg (u8s endB.1).toArray) := Knows.mk Tryz.func11 (fun w' _ => End_calls w')
  (repeat refine RC.seq ?_); refine RC.draw ([(b11, Obj.cells (ceC c (.slice oa c.os.length oc) (.slice sa c.sg.length sc)).toArray 36 (0, 0))]) mixed (N := 5) rfl ?_
  refine dy 0 ?_
  refine dy 1 ?_
  refine DR.c 2 (DOp.op1 rfl cvK (fun _ => ?_))
  refine DR.c 3 (DOp.op1 rfl (OpTo.callT Tryz.func9 hp1 (fun w' hm => hT w' (hasFs hp1 hm).1 (hasFs hp1 hm).2 (hK.fr hm.fr (by simp)) (freshC hK (by simp) (hm.perm hp1) (fun p hp => List.mem_append_left _ hp)))) ?_)
  rintro ⟨⟨z, bz⟩, hzd, hzk⟩
  dsimp only at hzd hzk ⊢
  rw [hxd] at hzd
  refine dy 4 ?_
  refine DR.done (by kernel_rfl) ?_
  have hzS : z.ln ∧ z.d.pend = decide (vv = 0) ∧ z.d.r.bal = n := by
    have hb : (rcF n).bal = n := Int.zero_add n
    by_cases h0 : vv = 0
    · rw [if_pos h0] at hzd
      exact ⟨(rcF_ln hzd (by omega) (by omega)).1, by rw [hzd, decide_eq_true h0], by rw [hzd]; exact hb⟩
    · rw [if_neg h0] at hzd
      exact ⟨(rcF_ln hzd (Nat.zero_le _) (Nat.zero_le _)).1, by rw [hzd, decide_eq_false h0], by rw [hzd]; exact hb⟩
  refine x_ ?_
  have hSd := fun w' h1 h2 => SideK_calls z hzS.1 y.b y.bb y.cap y.rest w' h1 h2
  refine Run.op1 (OpTo.callD Tryz.func12 (fun w' hm => hSd w' (fun p hp => hm.has p (List.mem_append_left _ (List.mem_append_left _ hp))) (hzk w' (fun p hp => hm.has p (List.mem_append_left _ (List.mem_append_right _ hp)))))) ?_
  rintro ⟨⟨y2, bq⟩, hd2, hk2⟩
  dsimp only at hd2 hk2 ⊢
  have r19 : rdAt ti4 y2.c.toArray 19 = some (.bool y2.d.pend) := kd_r19 _ _ _ _ _
  have r5 : rdAt ti3 y2.c.toArray 5 = some (.int .i64 y2.d.r.bal) := kd_r5 _ _ _ _ _
  rw [hd2, hzS.2.1] at r19
  rw [hd2, hzS.2.2] at r5
  have hy42 : y2.c.toArray.size = 42 := by rw [List.size_toArray, y2.len]
  have hy1 := y2.one
  generalize y2.c = Y2 at r19 r5 hy42 hy1 ⊢
  refine x_ ?_
  refine Run.nw nal ?_
  intro b15
  refine x_ ?_
  refine Run.op1 (osa (arr := ti45.zero.cells) Y2.toArray hy1 (hs := by exact hy42)) (fun _ => ?_)
  obtain ⟨sm, hsm9⟩ : ∃ sm, sm = am.sum := ⟨_, rfl⟩
  rw [← hsm9] at hv9 ⊢
  by_cases g : n < sm
  · obtain rfl : vv = 5 := hv9.trans (if_pos g)
    refine x_ ?_
    refine Run.a (Val.eq (Val.eqBool tabOk rfl rfl rfl rfl rfl) (show _ = Value.bool true from by rw [decide_eq_false (show ¬ sm ≤ n by omega)]; rfl)) ?_
    refine x_ ?_
    refine Run.a (Val.eq (Val.eqBool tabOk rfl rfl rfl rfl rfl) (show _ = Value.bool true from by rw [decide_eq_false (show ¬ sm ≤ n by omega)]; rfl)) ?_
    refine x_ ?_
    exact RQ.ret1 rfl (Res.tmp rfl) fun w' hm => ⟨by simp, hm.fr⟩
  · obtain rfl : vv = 0 := hv9.trans (if_neg g)
    refine x_ ?_
    refine Run.a (Val.eq (Val.eqBool tabOk rfl rfl rfl rfl rfl) (show _ = Value.bool true from by rw [decide_eq_true (show sm ≤ n by omega)]; rfl)) ?_
    refine x_ ?_
    refine Run.a (Val.eq (Val.eqBool tabOk rfl rfl rfl rfl rfl) (show _ = Value.bool true from by rw [decide_eq_true (show sm ≤ n by omega)]; rfl)) ?_
    refine x_ ?_
    exact RQ.ret1 rfl (Res.tmp rfl) fun w' hm => ⟨by simp, hm.fr⟩
end Go.Proofs.YtkkfaffehbjdgaaGreatDoor
end
section
/- Arguments that are slices of uint16. -/
namespace Go.Proofs.YtkkfaffehbjdgaaGreatDoor
set_option maxRecDepth 10000
open Go Go.Vc Go.Sha Go.ChangeShapes Go.WideShapes Go.ChangeAt Go.RowKit Go.Deep
theorem kCellsU : Tryz.prog.cellsOf 52 = 1 := by kernel_rfl
theorem u16_slice {H : Type} {enc : TypeId × Value → H} {w : World} {b0 : Nat} {r : Reach} {held : Bool} {v : Value} {d : DataW H} {ps : List MemPlace}
    (hval : Value.okWide Tryz.prog w r b0 53 v) (h : DataW.Trod enc Tryz.prog w 0 (fun _ => true) held 53 v d ps) : ∃ l : List Nat, SrcW w 1 v l.length (u16s l) ∧ (∀ z ∈ l, z < 65536) ∧ l.length ≤ 9223372036854775807 := by
  obtain ⟨a, len, cap, rfl⟩ := okWide_slice Tryz.underlying53 hval
  obtain ⟨n, h⟩ := h
  haveI : Inhabited {z : Nat // z < 65536} := ⟨⟨0, by decide⟩⟩
  obtain ⟨v, l, hv, hs, hl⟩ := one_trod (fun z : {z : Nat // z < 65536} => Value.int .u16 (z.1 : Int)) Tryz.underlying53 kCellsU (fun n V D Pl h => by
    obtain ⟨z, hcs, _, hw⟩ := DataW.trod_int Tryz.underlying52 h
    have hb := bounds_u16 hw
    refine ⟨⟨z.toNat, by omega⟩, ?_⟩
    show V = Value.int .u16 ((z.toNat : Nat) : Int)
    rw [Int.toNat_of_nonneg hb.1]
    simpa using hcs) h
  cases hv
  refine ⟨l.map (·.1), ?_, fun z hz => ?_, by rw [List.length_map]; exact hl⟩
  · rw [List.length_map, show u16s (l.map (·.1)) = l.map (fun z : {z : Nat // z < 65536} => Value.int .u16 (z.1 : Int)) from by unfold u16s; rw [List.map_map]; rfl]
    exact hs
  · obtain ⟨y, _, rfl⟩ := List.mem_map.1 hz
    exact y.2
end Go.Proofs.YtkkfaffehbjdgaaGreatDoor
end
section
/- cert: CertBetter. -/
namespace Go.Vc
open Go
/-- What each world with these blocks tells may be taken as told. -/
theorem Run.know {P : Program} {n : Nat} {w0 : World} {S0 : List Nat} {E : Env} {L : Hp} {Q : Exit → Act → World → Prop} {ops : Array Oper} {rest : List Oper} {A : Prop} (h : ∀ w, Mem w0 S0 L w → A) (k : A → Run P n w0 S0 ops Q rest E L) : Run P n w0 S0 ops Q rest E L := fun a w hs hm => k (h w hm) a w hs hm
/-- A cell that each world with these blocks has. -/
theorem Val.loadOwn {P : Program} {n : Nat} {w0 : World} {S0 : List Nat} {E : Env} {L : Hp} {o : Oper} {t : Nat} {ti : TI} {T : List (Nat × TI)} (hT : TabOk P T) {x : Operand} {ad : Addr} {v : Value} (hr : ∀ w, Mem w0 S0 L w → w.cell? ad = some v) (ho : o.op = .load t x := by exact rfl) (ht : tiGet T t = some ti := by exact rfl)
    (hx : lk E x = some (.pointer (some ad)) := by exact rfl) (ha : TypeDesc.agg ti.desc = false := by exact rfl) : Val P n w0 S0 E L o v := by
  intro a w hs hmem
  have := run_loadVar_one (P := P) (hT _ _ ht) ha w ad v (hr w hmem)
  simp [execOp, ho, hs.eval hx, Instr.loadAt, Instr.sureAddr, this]
end Go.Vc
namespace Go.Proofs.YtkkfaffehbjdgaaGreatDoor
attribute [local irreducible] Go.Vc.Run Go.Vc.RC Go.Vc.RQ Go.Vc.DR Go.Vc.DOp Go.Vc.Knows Go.Vc.At
set_option maxHeartbeats 400000
set_option maxRecDepth 10000
open Go Go.Vc Go.Sha
/-- The record, what it hangs on, and which plan waits. -/
structure BtD where
  x : KX
  pool : Hp
  best : Option Nat
def BtD.b (d : BtD) : Int := match d.best with
  | none => -1
  | some j => j
noncomputable def bestC (q j : Nat) : CeD := crtP 0 0 q [1 + (j : Int)] [0, 1] 0
def BtI (qs : List Nat) (k : Nat) (d : BtD) : Prop :=
  (∀ w, Has d.pool w → d.x.ok w) ∧ match d.best with
  | none => d.x.d = ⟨rcF 50, false, CeD.nul⟩
  | some j => j < k ∧ ∃ q, qs[j]? = some q ∧ d.x.d = ⟨rcF 50, true, bestC q j⟩
set_option maxRecDepth 10000 in set_option maxHeartbeats 4000000 in
theorem CertBetter_calls (qs : List Nat) (hq : ∀ q ∈ qs, q < 256) (v : Value) (w : World) (hs : SrcW w 1 v qs.length (u8s qs)) (hK : Laid w) : Gives Tryz.prog 3 [v] (.bool true) w := by
  refine enter Tryz.func3 rfl (Mem.nil w []) rfl ?_
  obtain ⟨va, vc, rfl, hvc⟩ := hs.shape
  refine x_ ?_
  refine Run.op1 (OpTo.cv Tryz.func7 (fun w' hm => c14awake_calls w' (hK.fr hm.fr (by simp)))) (fun _ => ?_)
  by_cases h6 : 6 < qs.length
  · refine x_ ?_
    exact RQ.ret1 rfl (Res.tmp rfl) fun w' hm => ⟨rfl, hm.fr⟩
  refine x_ ?_
  refine Run.nw (nbsk (parts := [(0, .const (.int .i64 50))]) #[.int .i64 50]) ?_
  intro b21
  refine x_ ?_
  have hz0 : ([(b21, Obj.cells #[.int .i64 50] 3 (0, 0))] : Hp).Perm ([] ++ [(b21, Obj.cells #[.int .i64 50] 3 (0, 0))]) := List.Perm.refl _
  refine Run.op1 (OpTo.callT Tryz.func8 hz0 (fun w' hm => FillK_calls 50 (by decide) _ w' (SrcW.row (cs := i64L [50]) hm m0 rfl (Nat.le_refl 1)))) ?_
  intro y
  refine x_ ?_
  unfold FlY.L
  refine RC.up qs.length (D := BtD) (BtI qs) (fun k d => [(6, .int .i64 k), (5, .int .i64 d.b), (3, .pointer (some ⟨y.b, 0, none⟩)), (0, .slice va qs.length vc)]) (fun _ d => KW y.b y.bb y.cap y.rest d.x ++ d.pool) 0 ⟨y.x, y.pool, none⟩ (Nat.zero_le _) ⟨y.hok, y.hd⟩ ⟨rfl, rfl, rfl, rfl, trivial⟩ (by dsimp only; rw [List.append_assoc]; exact List.Sublist.append (List.Sublist.refl _) (List.Sublist.trans (List.sublist_append_left _ _) (List.sublist_append_left _ _))) ?_
  rintro k ⟨x, pool, best⟩ hk ⟨hok, hbst⟩
  dsimp only at hok hbst ⊢
  by_cases hk' : k < qs.length
  · have hk8 : k < qs.length := hk'
    obtain ⟨q, hx⟩ : ∃ q, qs[k]? = some q := ⟨_, List.getElem?_eq_getElem hk'⟩
    obtain ⟨ad, c', hv', hc', hcl, hr⟩ := hs.pos (by omega)
    cases hv'
    have hq2 := hq q (List.mem_of_getElem? hx)
    have hcx : w.cell? (ad.add (k * 1)) = some (.int .u8 q) := by
      rw [Nat.mul_one]
      exact hr k _ (by unfold u8s; rw [List.getElem?_map, hx]; rfl)
    have kE : Knows Tryz.prog w 11 [] (.agg (u8s endB.1).toArray) := Knows.mk Tryz.func11 (fun w' _ => End_calls w')
    refine x_ ?_
    refine Run.nw (nbsk (parts := [(0, .tmp 37)]) #[.int .i64 (1 + (k : Int))]) ?_
    intro b38
    refine x_ ?_
    refine Run.nw (nbsk (parts := [(0, .const (.int .u8 0)), (1, .const (.int .u8 1))]) #[.int .u8 0, .int .u8 1]) ?_
    intro b39
    refine x_ ?_
    refine Run.a (vbs (planC 0 0 (q : Int) (.slice (some ⟨b38, 0, none⟩) 1 1) (.slice (some ⟨b39, 0, none⟩) 2 2) 0).toArray) ?_
    refine Run.op1 (OpTo.callD Tryz.func10 (fun w' hm => CMake_calls 0 0 q (by omega) [1 + (k : Int)] (Nat.le_of_ble_eq_true rfl) [0, 1] (by decide) (by decide) 0 (.inl rfl) _ _ w' (SrcW.row (cs := i64L [1 + (k : Int)]) hm m1 rfl (Nat.le_refl 1)) (SrcW.row (cs := u8s [0, 1]) hm m0 rfl (Nat.le_refl 2)))) ?_
    rintro ⟨⟨⟨⟨oa, oc⟩, ⟨sa, sc⟩⟩, bl⟩, _, hk9⟩
    dsimp only at hk9 ⊢
    obtain ⟨c, hc⟩ : ∃ c, c = bestC q k := ⟨_, rfl⟩
    obtain ⟨ss, hss⟩ : ∃ ss, ss = sgP 0 q [1 + (k : Int)] [0, 1] 0 := ⟨_, rfl⟩
    have hain : ∀ a ∈ [1 + (k : Int)], 1 ≤ a ∧ a ≤ 100000 := by intro a ha; rw [List.mem_singleton] at ha; omega
    have hf : CrF c ss 1 2 := by rw [hc, hss]; exact crF (ams := [1 + (k : Int)]) 0 q [0, 1] 0 hain
    have hos := hf.os
    have hsg := hf.sg
    rw [show ceC (crtP 0 0 q [1 + (k : Int)] [0, 1] 0) (.slice oa [1 + (k : Int)].length oc) (.slice sa [0, 1].length sc) = ceC c (.slice oa c.os.length oc) (.slice sa c.sg.length sc) from by rw [hos, hsg, hc]; rfl]
    have hk' : ∀ w, Has bl w → SrcW w 9 (.slice oa c.os.length oc) c.os.length (rws OutD.c c.os) ∧ SrcW w 282 (.slice sa c.sg.length sc) c.sg.length (rws SgD.c c.sg) := fun w hw => by
      have h := hk9 w hw
      rw [hos, hsg, hc]
      exact h
    clear hk9
    refine x_ ?_
    obtain ⟨bv, hbv⟩ : ∃ bv : Int, bv = BtD.b ⟨x, pool, best⟩ := ⟨_, rfl⟩
    rw [← hbv]
    obtain ⟨h, hh⟩ : ∃ h : Int, h = 8 + ((k % 2 : Nat) : Int) := ⟨_, rfl⟩
    rw [← hh]
    obtain ⟨vv, hv⟩ : ∃ vv, vv = chkK x.d c h endB.1 ss := ⟨_, rfl⟩
    have hpl : ∀ (p : Bool) (cc : CeD), chkK ⟨rcF 50, p, cc⟩ c h endB.1 ss = if p = true ∧ (q : Int) ≤ cc.ql then 10 else 0 := fun p cc => by
      rw [hc, hss]
      unfold bestC
      rw [chkP (by decide) (by omega) hain (Nat.le_of_ble_eq_true rfl) (by decide) (by decide), if_neg (by rintro (h | h); exact h (by omega); exact h rfl)]
      by_cases hpq : p = true ∧ (q : Int) ≤ cc.ql
      · rw [if_pos hpq, if_pos hpq]
      · rw [if_neg hpq, if_neg hpq, if_neg (by rw [List.sum_cons, List.sum_nil]; omega)]
        exact if_pos rfl
    have hln : x.ln ∧ HL x.d.r.keys := by
      cases best with
      | none => exact rcF_ln hbst (Nat.zero_le _) (Nat.zero_le _)
      | some j =>
        obtain ⟨_, q', _, hd⟩ := hbst
        have hf' : CrF (bestC q' j) (sgP 0 q' [1 + (j : Int)] [0, 1] 0) 1 2 := crF (ams := [1 + (j : Int)]) 0 q' [0, 1] 0 (by intro a ha; rw [List.mem_singleton] at ha; omega)
        have h1 := hf'.os
        have h2 := hf'.sg
        exact rcF_ln hd (by omega) (by omega)
    have hcs : (best = none ∧ bv = -1 ∧ vv = 0) ∨ (∃ (j q' : Nat), best = some j ∧ bv = (j : Int) ∧ qs[j]? = some q' ∧ q' < q ∧ vv = 0) ∨ (∃ (j q' : Nat), best = some j ∧ bv = (j : Int) ∧ qs[j]? = some q' ∧ q ≤ q' ∧ vv = 10) := by
      cases best with
      | none =>
        refine .inl ⟨rfl, hbv, ?_⟩
        rw [hv, show x.d = _ from hbst, hpl, if_neg (fun h => Bool.noConfusion h.1)]
      | some j =>
        obtain ⟨_, q', hq', hd⟩ := hbst
        rw [hd, hpl] at hv
        by_cases hqq : q ≤ q'
        · exact .inr (.inr ⟨j, q', rfl, hbv, hq', hqq, hv.trans (if_pos ⟨rfl, by show (q : Int) ≤ (q' : Int); omega⟩)⟩)
        · exact .inr (.inl ⟨j, q', rfl, hbv, hq', by omega, hv.trans (if_neg (by rintro ⟨_, h⟩; exact hqq (by have : (q : Int) ≤ (q' : Int) := h; omega)))⟩)
    have hp1 : (bl ++ ((b39, Obj.cells #[.int .u8 0, .int .u8 1] 5 (0, 0)) :: ((b38, Obj.cells #[.int .i64 (1 + (k : Int))] 3 (0, 0)) :: (KW y.b y.bb y.cap y.rest x ++ pool))) : Hp).Perm ((KW y.b y.bb y.cap y.rest x ++ (bl ++ pool)) ++ [(b39, Obj.cells #[.int .u8 0, .int .u8 1] 5 (0, 0)), (b38, Obj.cells #[.int .i64 (1 + (k : Int))] 3 (0, 0))]) := (perm_of fun f => by (simp only [List.map_append, List.map_cons, List.map_nil, List.sum_append, List.sum_cons, List.sum_nil] <;> omega))
    have hT := fun w' h1 h2 h3 h4 => TakeK_calls x hln.1 hln.2 hf (by omega) (by decide) oa oc sa sc h endB.1 rfl y.b y.bb y.cap y.rest w' y.hcap (ap := bl ++ pool) (fun w hw => ⟨hok w hw.right, hk' w hw.left⟩) h1 h2 h3 h4
    rw [← hv] at hT
    refine Run.op1 (OpTo.callT Tryz.func9 hp1 (fun w' hm => hT w' (hasFs hp1 hm).1 (hasFs hp1 hm).2 (hK.fr hm.fr (by simp)) (freshC hK (by simp) (hm.perm hp1) (fun p hp => List.mem_append_left _ hp)))) ?_
    rintro ⟨⟨z, bz⟩, hzd, hzk⟩
    dsimp only at hzd hzk ⊢
    have hup : ∀ {p : Nat × Obj}, p ∈ KW y.b y.bb y.cap y.rest z ++ bz → p ∈ (KW y.b y.bb y.cap y.rest z ++ bz) ++ [(b39, Obj.cells #[.int .u8 0, .int .u8 1] 5 (0, 0)), (b38, Obj.cells #[.int .i64 (1 + (k : Int))] 3 (0, 0))] := fun h => List.mem_append_left _ h
    have hxr : x.d.r = rcF 50 := by
      cases best with
      | none => rw [show x.d = _ from hbst]
      | some j => obtain ⟨_, q', _, hd⟩ := hbst; rw [hd]
    rw [hxr] at hzd
    have hnw : vv = 0 → BtI qs (k + 1) ⟨z, bz, some k⟩ := fun h0 => ⟨hzk, Nat.lt_succ_self k, q, hx, by rw [hzd, if_pos h0, hc]⟩
    have hst : vv ≠ 0 → ∀ {j : Nat}, best = some j → BtI qs (k + 1) ⟨z, bz, some j⟩ := fun h0 j hb => by
      subst hb
      obtain ⟨hj, q', hq', hd⟩ := hbst
      exact ⟨hzk, Nat.lt_succ_of_lt hj, q', hq', by rw [hzd, if_neg h0]; exact hd⟩
    rcases hcs with ⟨hb, rfl, rfl⟩ | ⟨j, q', hb, rfl, hq', hqq, rfl⟩ | ⟨j, q', hb, rfl, hq', hqq, rfl⟩
    · refine x_ ?_
      refine Run.a (Val.eq (Val.neBool tabOk rfl rfl rfl rfl rfl) (show _ = Value.bool false from rfl)) ?_
      refine x_ ?_
      exact RQ.upP (k + 1) ⟨z, bz, some k⟩ (Nat.lt_succ_self _) hk8 (hnw rfl) ⟨rfl, rfl, rfl, rfl, trivial⟩ (L1 := (KW y.b y.bb y.cap y.rest z ++ bz) ++ [(b39, Obj.cells #[.int .u8 0, .int .u8 1] 5 (0, 0)), (b38, Obj.cells #[.int .i64 (1 + (k : Int))] 3 (0, 0))]) (List.Perm.refl _) (List.sublist_append_left _ _)
    · have hcj : w.cell? (ad.add (j * 1)) = some (.int .u8 q') := by
        rw [Nat.mul_one]
        exact hr j _ (by unfold u8s; rw [List.getElem?_map, hq']; rfl)
      have hjl := (List.getElem?_eq_some_iff.1 hq').1
      have hq2' := hq q' (List.mem_of_getElem? hq')
      refine x_ ?_
      rw [decide_eq_false (show ¬ (j : Int) < 0 by omega), decide_eq_true (show (q : Int) > (q' : Int) by omega)]
      refine Run.a (Val.eq (Val.neBool tabOk rfl rfl rfl rfl rfl) (show _ = Value.bool false from rfl)) ?_
      refine x_ ?_
      exact RQ.upP (k + 1) ⟨z, bz, some k⟩ (Nat.lt_succ_self _) hk8 (hnw rfl) ⟨rfl, rfl, rfl, rfl, trivial⟩ (L1 := (KW y.b y.bb y.cap y.rest z ++ bz) ++ [(b39, Obj.cells #[.int .u8 0, .int .u8 1] 5 (0, 0)), (b38, Obj.cells #[.int .i64 (1 + (k : Int))] 3 (0, 0))]) (List.Perm.refl _) (List.sublist_append_left _ _)
    · have hcj : w.cell? (ad.add (j * 1)) = some (.int .u8 q') := by
        rw [Nat.mul_one]
        exact hr j _ (by unfold u8s; rw [List.getElem?_map, hq']; rfl)
      have hjl := (List.getElem?_eq_some_iff.1 hq').1
      have hq2' := hq q' (List.mem_of_getElem? hq')
      refine x_ ?_
      rw [decide_eq_false (show ¬ (j : Int) < 0 by omega), decide_eq_false (show ¬ (q : Int) > (q' : Int) by omega)]
      refine Run.a (Val.eq (Val.neBool tabOk rfl rfl rfl rfl rfl) (show _ = Value.bool false from rfl)) ?_
      refine x_ ?_
      exact RQ.upP (k + 1) ⟨z, bz, some j⟩ (Nat.lt_succ_self _) hk8 (hst (by decide) hb) ⟨rfl, rfl, rfl, rfl, trivial⟩ (L1 := (KW y.b y.bb y.cap y.rest z ++ bz) ++ [(b39, Obj.cells #[.int .u8 0, .int .u8 1] 5 (0, 0)), (b38, Obj.cells #[.int .i64 (1 + (k : Int))] 3 (0, 0))]) (List.Perm.refl _) (List.sublist_append_left _ _)
  obtain rfl : k = qs.length := by omega
  have hzS : x.ln := by
    cases best with
    | none => exact (rcF_ln hbst (Nat.zero_le _) (Nat.zero_le _)).1
    | some j =>
      obtain ⟨_, q', _, hd⟩ := hbst
      have hf' : CrF (bestC q' j) (sgP 0 q' [1 + (j : Int)] [0, 1] 0) 1 2 := crF (ams := [1 + (j : Int)]) 0 q' [0, 1] 0 (by intro a ha; rw [List.mem_singleton] at ha; omega)
      have h1 := hf'.os
      have h2 := hf'.sg
      exact (rcF_ln hd (by omega) (by omega)).1
  have hb50 : x.d.r.bal = 50 := by
    cases best with
    | none => rw [show x.d = _ from hbst]; rfl
    | some j => obtain ⟨_, q', _, hd⟩ := hbst; rw [hd]; rfl
  have hSd := fun w' h1 h2 => SideK_calls x hzS y.b y.bb y.cap y.rest w' h1 h2
  refine x_ ?_
  refine Run.op1 (OpTo.callD Tryz.func12 (fun w' hm => hSd w' (fun p hp => hm.has p (List.mem_append_left _ hp)) (hok w' (fun p hp => hm.has p (List.mem_append_right _ hp))))) ?_
  rintro ⟨⟨y2, bq⟩, hd2, hk2⟩
  dsimp only at hd2 hk2 ⊢
  have r19 : rdAt ti4 y2.c.toArray 19 = some (.bool y2.d.pend) := kd_r19 _ _ _ _ _
  have r5 : rdAt ti3 y2.c.toArray 5 = some (.int .i64 y2.d.r.bal) := kd_r5 _ _ _ _ _
  have r39 : rdAt ti33 y2.c.toArray 39 = some (.slice y2.ov.1 y2.d.c.os.length y2.ov.2) := kd_r39 _ _ _ _ _
  rw [hd2, hb50] at r5
  rw [hd2] at r19 r39
  have hy42 : y2.c.toArray.size = 42 := by rw [List.size_toArray, y2.len]
  have hy1 := y2.one
  have hko : ∀ w, Has bq w → SrcW w 9 (.slice y2.ov.1 x.d.c.os.length y2.ov.2) x.d.c.os.length (rws OutD.c x.d.c.os) := fun w hw => by
    have := (hk2 w hw).o
    rw [hd2] at this
    exact this
  generalize y2.c = Y2 at r19 r5 r39 hy42 hy1 ⊢
  refine x_ ?_
  refine Run.nw nal ?_
  intro b9
  refine x_ ?_
  refine Run.op1 (osa (arr := ti45.zero.cells) Y2.toArray hy1 (hs := by exact hy42)) (fun _ => ?_)
  cases best with
  | none =>
    rw [show x.d = _ from hbst, show (⟨rcF 50, false, CeD.nul⟩ : Kd).pend = false from rfl] at r19
    rw [show BtD.b ⟨x, pool, none⟩ = -1 from rfl]
    refine x_ ?_
    refine Run.a (Val.eq (Val.eqBool tabOk rfl rfl rfl rfl rfl) (show _ = Value.bool true from rfl)) ?_
    refine x_ ?_
    exact RQ.ret1 rfl (Res.tmp rfl) fun w' hm => ⟨rfl, hm.fr⟩
  | some j =>
    obtain ⟨hj, q', hq', hd⟩ := hbst
    rw [hd] at r39 hko
    rw [hd, show (⟨rcF 50, true, bestC q' j⟩ : Kd).pend = true from rfl] at r19
    have hos1 : (bestC q' j).os.length = 1 := outsI_len [1 + (j : Int)]
    have hos2 : (bestC q' j).os = [outI 0 (1 + (j : Int))] := rfl
    rw [show (⟨rcF 50, true, bestC q' j⟩ : Kd).c.os.length = 1 from hos1] at r39 hko
    rw [show (⟨rcF 50, true, bestC q' j⟩ : Kd).c.os = [outI 0 (1 + (j : Int))] from hos2, rws_one] at hko
    rw [show BtD.b ⟨x, pool, some j⟩ = (j : Int) from rfl]
    refine Run.know (A := ∃ ad, y2.ov.1 = some ad) (fun w' hm => ?_) ?_
    · obtain ⟨ad, c', hv', _⟩ := (hko w' (fun p hp => hm.has p (List.mem_cons_of_mem _ (List.mem_append_left _ hp)))).pos (by decide)
      exact ⟨ad, by injection hv'⟩
    rintro ⟨ad, had⟩
    rw [had] at r39 hko
    have hcl : ∀ w, Has bq w → w.cell? ((ad.add (0 * 9)).add 8) = some (.int .i64 (1 + (j : Int))) := fun w hw => by
      obtain ⟨ad', c', hv', _, _, hr⟩ := (hko w hw).pos (by decide)
      injection hv' with h1
      injection h1 with h1
      subst h1
      rw [add_add]
      exact hr 8 _ (at_mid (pre := u8s (outI 0 (1 + (j : Int))).t.1) (post := []) rfl (by rw [u8s_len, (outI 0 (1 + (j : Int))).t.2.1]))
    refine x_ ?_
    refine Run.a (Val.eq (Val.eqBool tabOk rfl rfl rfl rfl rfl) (show _ = Value.bool true from by rw [decide_eq_true (show (j : Int) ≥ 0 by omega)]; rfl)) ?_
    refine x_ ?_
    refine Run.a (vixA (j := 0)) ?_
    refine x_ ?_
    refine Run.a (Val.loadOwn tabOk (fun w' hm => hcl w' (fun p hp => hm.has p (List.mem_cons_of_mem _ (List.mem_append_left _ hp))))) ?_
    refine x_ ?_
    exact RQ.ret1 rfl (Res.tmp rfl) fun w' hm => ⟨by rw [decide_eq_false (show ¬ (j : Int) < 0 by omega)]; rfl, hm.fr⟩
end Go.Proofs.YtkkfaffehbjdgaaGreatDoor
end
