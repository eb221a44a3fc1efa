/- Lemmas. -/
import Derived.Test.YtkkfaffehbjdgaaGreatDoorPk32
set_option linter.unusedSimpArgs false
set_option linter.unusedVariables false
section
/- registry's reference: Total, Create, Forward, Copy. -/
namespace Go.Proofs.YtkkfaffehbjdgaaGreatDoor
set_option maxRecDepth 10000
attribute [local irreducible] Go.Vc.Run Go.Vc.RC Go.Vc.RQ Go.Vc.DR Go.Vc.DOp
open Go Go.Vc Go.Sha

set_option maxRecDepth 10000 in set_option maxHeartbeats 4000000 in
theorem ref_Create_calls {sb : Nat} {pool : Hp} (st : RSt sb pool) {ln wd nd : Int} {ks : List (List Nat)} (hH : HL ks) (hkl : ks.length ≤ 1000000) {kv : Value} (hk1 : kv.oneCell' = true) {ap : Hp} (hk : ∀ w, Has ap w → SrcW w 8 kv ks.length (u8s ks.flatten)) (h : Int) (w : World)
    (hw : Has (st.L ++ ap) w) (hnd : ((st.L ++ ap).map (·.1)).Nodup) :
    Turns Tryz.prog 20 [.pointer (some ⟨sb, 0, none⟩), .agg (prm ln wd nd kv).toArray, .int .i64 h] w (st.L ++ ap)
      (Y := RrY sb pool (createR st.rs (mayP ln wd nd ks) (rcNew ln wd nd ks h)).1)
      (fun _ => .tuple #[.int .i64 (createR st.rs (mayP ln wd nd ks) (rcNew ln wd nd ks h)).2.1, .int .i64 (createR st.rs (mayP ln wd nd ks) (rcNew ln wd nd ks h)).2.2]) (fun y => y.1.2.L ++ (y.1.1 ++ ap)) := by
  refine enter Tryz.func20 rfl (Mem.init (S0 := (st.L ++ ap).map (·.1)) hw (fun p hp => List.mem_map_of_mem hp) hnd) rfl ?_
  have hM := fun w' hs' => MayParams_calls ln wd nd ks hH (by omega) kv w' hs'
  have hlr : st.rs.length = st.l.length := List.length_map _
  have hap : ∀ {w' : World} {L1 : Hp}, Mem w ((st.L ++ ap).map (·.1)) (L1 ++ (st.L ++ ap)) w' → Has ap w' := fun hm p hp => hm.has p (List.mem_append_right _ (List.mem_append_right _ hp))
  have hapw : Has ap w := hw.right
  refine z_ ?_
  refine Run.nw nbx ?_
  intro b4
  refine z_ ?_
  refine Run.op1 (OpTo.cv Tryz.func40 (fun w' hm => hM w' (hk w' (hap (L1 := [_]) hm)))) (fun _ => ?_)
  cases hmay : mayP ln wd nd ks with
  | false =>
    rw [createR_bad]
    refine z_ ?_
    exact RQ.ret2 rfl (Res.tmp rfl) (Res.tmp rfl) fun w' hm => cr_of (Lr := [(b4, .cells (prm ln wd nd kv).toArray 43 (0, 0))]) [] st rfl hm (perm_of fun f => by (simp only [List.map_append, List.map_cons, List.map_nil, List.sum_append, List.sum_cons, List.sum_nil] <;> omega))
  | true =>
    obtain ⟨va, vc, hv, hvc⟩ := st.own.shape
    have hcells : st.L = (sb, .cells #[.slice va st.l.length vc] 63 (0, 0)) :: st.bb := by unfold StO.L; rw [hv]
    have hown := st.own
    rw [hv] at hown
    rw [show (st.L ++ ap) = (sb, .cells #[.slice va st.l.length vc] 63 (0, 0)) :: (st.bb ++ ap) by rw [hcells]; rfl] at hap ⊢
    by_cases h8 : st.l.length < 8
    · rw [createR_ok _ (by omega), hlr]
      refine z_ ?_
      refine Run.op1 (OpTo.append (L1 := (b4, .cells (prm ln wd nd kv).toArray 43 (0, 0)) :: (sb, .cells #[.slice va st.l.length vc] 63 (0, 0)) :: (st.bb ++ ap)) tabOk Own.nil (Src.ofHas hk (fun p hp => List.mem_cons_of_mem _ (List.mem_cons_of_mem _ (List.mem_append_right _ hp))) hapw) rfl rfl rfl rfl rfl rfl rfl rfl rfl (List.Perm.refl _) (u8s_one _) (by unfold maxLen; omega) (by simp only [ti32]; omega)) ?_
      rintro ⟨⟨kv2, kb⟩, hown2⟩
      dsimp only at hown2 ⊢
      rw [Nat.zero_add, List.nil_append] at hown2
      have hko := hown2.one
      obtain ⟨ka, kc, rfl, hkc⟩ := hown2.shape
      refine z_ ?_
      refine Run.op1 (os1 (prm ln wd nd (.slice ka ks.length kc)).toArray) (fun _ => ?_)
      refine z_ ?_
      obtain ⟨x, hxr, hx⟩ : ∃ x : SX, x.r = rcNew ln wd nd ks h ∧ x = ⟨rcNew ln wd nd ks h, .slice ka ks.length kc, .slice none 0 0, hko, rfl⟩ := ⟨_, rfl, rfl⟩
      have hxc : x.c = (rcNew ln wd nd ks h).c (.slice ka ks.length kc) (.slice none 0 0) := by rw [hx]; rfl
      have hl2 := x.len
      (repeat refine RC.seq ?_); refine RC.draw ([(b4, .cells (prm ln wd nd (.slice ka ks.length kc)).toArray 43 (0, 0)), (sb, .cells #[.slice va st.l.length vc] 63 (0, 0))]) mixed (N := 14) rfl ?_
      refine dt 0 ?_
      refine dt 1 ?_
      refine dt 2 ?_
      refine dt 3 ?_
      refine dt 4 ?_
      refine dt 6 ?_
      refine dt 7 ?_
      refine DR.t 8 rfl (vbs x.c.toArray (hf := by rw [hxc]; kernel_rfl)) ?_
      refine DR.two (i := 5) (j := 9) (by kernel_rfl) ?_ ?_
      refine DOp.op1 rfl (OpTo.append (L1 := (b4, .cells (prm ln wd nd (.slice ka ks.length kc)).toArray 43 (0, 0)) :: (kb ++ (sb, .cells #[.slice va st.l.length vc] 63 (0, 0)) :: (st.bb ++ ap))) tabOk Own.nil (hown.src (fun p hp => List.mem_cons_of_mem _ (List.mem_append_right _ (List.mem_cons_of_mem _ (List.mem_append_left _ hp))))) rfl rfl rfl rfl rfl rfl rfl rfl rfl (List.Perm.refl _) (rws_one' fun s _ => s.one) (by unfold maxLen; omega) (by simp only [ti95]; omega)) ?_
      rintro ⟨⟨v26, bl26⟩, hown26⟩
      dsimp only at hown26 ⊢
      rw [Nat.zero_add, List.nil_append] at hown26
      refine DR.c 9 ?_
      refine DOp.op1 rfl (OpTo.new rfl rfl (nbsl x.c.toArray (fillS_1 42 _ x.c hl2))) ?_
      intro b31
      refine DR.weak rfl (E' := [(26, v26), (30, .slice (some ⟨b31, 0, none⟩) 1 1), (21, .pointer (some ⟨sb, 0, none⟩)), (0, .pointer (some ⟨sb, 0, none⟩))]) (L' := bl26 ++ ((b31, .cells x.c.toArray 95 (0, 0)) :: (b4, .cells (prm ln wd nd (.slice ka ks.length kc)).toArray 43 (0, 0)) :: (kb ++ (sb, .cells #[.slice va st.l.length vc] 63 (0, 0)) :: (st.bb ++ ap)))) ⟨rfl, rfl, rfl, rfl, trivial⟩ (perm_of fun f => by (simp only [List.map_append, List.map_cons, List.map_nil, List.sum_append, List.sum_cons, List.sum_nil] <;> omega)) ?_
      rotate_left
      refine DOp.op1 rfl (OpTo.new rfl rfl (nbsl x.c.toArray (fillS_1 42 _ x.c hl2))) ?_
      intro b31
      refine DR.c 5 (DOp.op1 rfl (OpTo.append (L1 := (b31, .cells x.c.toArray 95 (0, 0)) :: (b4, .cells (prm ln wd nd (.slice ka ks.length kc)).toArray 43 (0, 0)) :: (kb ++ (sb, .cells #[.slice va st.l.length vc] 63 (0, 0)) :: (st.bb ++ ap))) tabOk Own.nil (hown.src (fun p hp => List.mem_cons_of_mem _ (List.mem_cons_of_mem _ (List.mem_append_right _ (List.mem_cons_of_mem _ (List.mem_append_left _ hp)))))) rfl rfl rfl rfl rfl rfl rfl rfl rfl (List.Perm.refl _) (rws_one' fun s _ => s.one) (by unfold maxLen; omega) (by simp only [ti95]; omega)) ?_)
      rintro ⟨⟨v26, bl26⟩, hown26⟩
      dsimp only at hown26 ⊢
      rw [Nat.zero_add, List.nil_append] at hown26
      refine DR.weak rfl (E' := [(26, v26), (30, .slice (some ⟨b31, 0, none⟩) 1 1), (21, .pointer (some ⟨sb, 0, none⟩)), (0, .pointer (some ⟨sb, 0, none⟩))]) (L' := bl26 ++ ((b31, .cells x.c.toArray 95 (0, 0)) :: (b4, .cells (prm ln wd nd (.slice ka ks.length kc)).toArray 43 (0, 0)) :: (kb ++ (sb, .cells #[.slice va st.l.length vc] 63 (0, 0)) :: (st.bb ++ ap)))) ⟨rfl, rfl, rfl, rfl, trivial⟩ (perm_of fun f => by (simp only [List.map_append, List.map_cons, List.map_nil, List.sum_append, List.sum_cons, List.sum_nil] <;> omega)) ?_
      all_goals
        refine DR.c 10 (DOp.op1 rfl (OpTo.append (L1 := (b31, .cells x.c.toArray 95 (0, 0)) :: (b4, .cells (prm ln wd nd (.slice ka ks.length kc)).toArray 43 (0, 0)) :: (kb ++ (sb, .cells #[.slice va st.l.length vc] 63 (0, 0)) :: (st.bb ++ ap))) tabOk hown26 (Src.at ⟨b31, 0, none⟩ 1 1 x.c (by rw [hl2]; rfl) (Rd.rowAll memA)) rfl rfl rfl rfl rfl rfl rfl rfl rfl (List.Perm.refl _) x.one (by unfold maxLen; omega) (by simp only [ti95]; omega)) ?_)
        rintro ⟨⟨v9, bl9⟩, hown9⟩
        dsimp only at hown9 ⊢
        obtain ⟨a9, c9, rfl, hc9⟩ := hown9.shape
        refine dt 11 ?_
        refine dt 12 ?_
        refine DR.c 13 (DOp.op1 rfl (os1 (arr := #[.slice va st.l.length vc]) (e := 63) (L' := bl9 ++ ((b31, .cells x.c.toArray 95 (0, 0)) :: (b4, .cells (prm ln wd nd (.slice ka ks.length kc)).toArray 43 (0, 0)) :: (kb ++ (st.bb ++ ap)))) #[.slice a9 (st.l.length + 1) c9] (hL := (perm_of fun f => by (simp only [List.map_append, List.map_cons, List.map_nil, List.sum_append, List.sum_cons, List.sum_nil] <;> omega)))) (fun _ => ?_))
        refine DR.done (by kernel_rfl) ?_
        refine z_ ?_
        refine RQ.ret2 rfl (Res.tmp rfl) (Res.tmp rfl) fun w' hm => ?_
        rw [show ((st.l.length + 1 : Nat) : Int) - 1 = (st.l.length : Int) from by omega]
        have hown' : Own 95 42 (.slice a9 (st.l.length + 1) c9) (st.l ++ [x]).length (rws SX.c (st.l ++ [x])) bl9 := by
          rw [rws_app, rws_one, List.length_append]; exact hown9
        have hnd' := hm.nd
        have hrs : (st.l ++ [x]).map SX.r = st.rs ++ [rcNew ln wd nd ks h] := by rw [List.map_append, List.map_cons, hxr]; rfl
        refine cr_of (sb := sb) (pool := pool) (ap := ap) kb ⟨_, bl9, st.l ++ [x], hown', ?_, by rw [List.length_append]; exact h8, ?_, ?_⟩ hrs hm (Lr := (b31, .cells x.c.toArray 95 (0, 0)) :: (b4, .cells (prm ln wd nd (.slice ka ks.length kc)).toArray 43 (0, 0)) :: st.bb) (by unfold StO.L; exact (perm_of fun f => by (simp only [List.map_append, List.map_cons, List.map_nil, List.sum_append, List.sum_cons, List.sum_nil] <;> omega)))
        · rw [List.map_cons, List.map_append, ← List.cons_append] at hnd'
          exact (List.nodup_append.1 hnd').1
        · intro s hs
          rcases List.mem_append.1 hs with hs | hs
          · exact st.hk s hs
          · rw [List.mem_singleton] at hs; subst hs; rw [hxr]; exact ⟨hkl, Nat.zero_le _⟩
        · intro w hw s hs
          rcases List.mem_append.1 hs with hs | hs
          · exact st.kn w hw.right s hs
          · rw [List.mem_singleton] at hs; subst hs; rw [hx]; exact ⟨hown2.srcW hw.left, SrcW.nil⟩
    · rw [createR_full _ (by omega)]
      refine z_ ?_
      exact RQ.ret2 rfl (Res.tmp rfl) (Res.tmp rfl) fun w' hm => cr_of (Lr := [(b4, .cells (prm ln wd nd kv).toArray 43 (0, 0))]) [] st rfl hm (by rw [hcells]; exact (perm_of fun f => by (simp only [List.map_append, List.map_cons, List.map_nil, List.sum_append, List.sum_cons, List.sum_nil] <;> omega)))
end Go.Proofs.YtkkfaffehbjdgaaGreatDoor
end
section
/- registry's reference: Forward, Copy. -/
namespace Go.Proofs.YtkkfaffehbjdgaaGreatDoor
set_option maxRecDepth 10000
attribute [local irreducible] Go.Vc.Run Go.Vc.RC Go.Vc.RQ Go.Vc.DR Go.Vc.DOp
open Go Go.Vc Go.Sha

set_option maxRecDepth 10000 in set_option maxHeartbeats 4000000 in
theorem ref_Forward_calls {sb : Nat} {pool : Hp} (st : RSt sb pool) (hnn : ∀ r ∈ st.rs, 0 ≤ r.bal ∧ 0 ≤ r.fwd) (side acct amt : Int) (hsd : -9223372036854775808 ≤ side ∧ side ≤ 9223372036854775807) (o : List Nat) (ho : o.length = 8) (w : World)
    (hw : Has st.L w) (hnd : (st.L.map (·.1)).Nodup) :
    Turns Tryz.prog 22 [.pointer (some ⟨sb, 0, none⟩), .agg (fwdC side acct o amt).toArray] w st.L
      (Y := RwY sb pool (fwdR st.rs side amt).1) (fun _ => .int .i64 (fwdR st.rs side amt).2) (fun y => y.1.L) := by
  obtain ⟨va, vc, hv, hvc⟩ := st.own.shape
  have hcells : st.L = (sb, .cells #[.slice va st.l.length vc] 63 (0, 0)) :: st.bb := by unfold StO.L; rw [hv]
  have hlr : st.rs.length = st.l.length := List.length_map _
  have hst8 := st.h8
  obtain ⟨o0, o1, o2, o3, o4, o5, o6, o7, rfl⟩ := len8 ho
  refine enter Tryz.func22 rfl (Mem.init (S0 := st.L.map (·.1)) hw (fun p hp => List.mem_map_of_mem hp) hnd) rfl ?_
  rw [hcells]
  refine z_ ?_
  refine Run.nw nbx ?_
  intro b3
  refine z_ ?_
  (repeat refine RC.seq ?_); refine RC.drawS mixed (N := 13) rfl ?_
  refine dt 0 ?_
  refine dt 1 ?_
  refine dt 2 ?_
  refine dt 3 ?_
  by_cases h0 : side < 0
  · rw [fwdR_no (by omega)]
    refine DR.sT 9 ?_
    refine DR.p 4 rfl ?_
    refine DR.p 5 rfl ?_
    refine DR.p 6 rfl ?_
    refine DR.p 7 rfl ?_
    refine DR.p 8 rfl ?_
    refine DR.p 9 rfl ?_
    refine DR.p 10 rfl ?_
    refine DR.p 11 rfl ?_
    refine dt 12 ?_
    refine DR.done (by kernel_rfl) ?_
    refine z_ ?_
    exact RQ.ret1 rfl (Res.tmp rfl) fun w' hm => fw_of (Lr := [(b3, .cells (fwdC side acct [o0, o1, o2, o3, o4, o5, o6, o7] amt).toArray 70 (0, 0))]) st rfl hm (by rw [hcells]; exact (perm_of fun f => by (simp only [List.map_append, List.map_cons, List.map_nil, List.sum_append, List.sum_cons, List.sum_nil] <;> omega)))
  obtain ⟨i, rfl⟩ := Int.eq_ofNat_of_zero_le (show 0 ≤ side by omega)
  refine DR.sF 9 ?_
  refine dt 4 ?_
  refine dt 5 ?_
  refine dt 6 ?_
  refine dt 7 ?_
  refine dt 8 ?_
  refine dt 9 ?_
  refine dt 10 ?_
  refine dt 11 ?_
  refine dt 12 ?_
  refine DR.done (by kernel_rfl) ?_
  by_cases hin : i < st.l.length
  · obtain ⟨s, hx⟩ : ∃ s, st.l[i]? = some s := ⟨_, List.getElem?_eq_getElem hin⟩
    have hxr : st.rs[i]? = some s.r := by unfold StO.rs; rw [List.getElem?_map, hx]; rfl
    obtain ⟨b, cap, rest, hv2, hbb, h1, h2, h3, h4⟩ := st.own.pos (by omega)
    obtain ⟨n1, n2⟩ := hnn s.r (List.mem_of_getElem? hxr)
    have hvv := hv
    rw [hv2] at hvv
    cases hvv
    rw [hbb]
    refine z_ ?_
    (repeat refine RC.seq ?_); refine RC.drawS mixed (N := 10) rfl ?_
    refine dt 0 ?_
    refine dt 1 ?_
    refine dt 2 ?_
    refine dt 3 ?_
    refine dt 4 ?_
    refine dt 5 ?_
    refine DR.t 6 rfl (vix i hin ⟨b, i * 42, none⟩) ?_
    refine DR.t 7 rfl (vl (.agg s.c.toArray) (hv := by exact rdAt_row SX.len hx rfl rfl)) ?_
    refine DR.c 8 ?_
    refine DOp.op1 rfl (OpTo.new rfl rfl (nal)) ?_
    intro b5
    refine DR.c 9 (DOp.op1 rfl (osa s.c.toArray s.one) (fun _ => ?_))
    refine DR.done (by kernel_rfl) ?_
    cases hce : s.r.ce with
    | true =>
      rw [fwdR_ce hxr hce]
      refine z_ ?_
      exact RQ.ret1 rfl (Res.tmp rfl) fun w' hm => fw_of (Lr := [(b5, .cells s.c.toArray 95 (0, 0)), (b3, .cells (fwdC i acct [o0, o1, o2, o3, o4, o5, o6, o7] amt).toArray 70 (0, 0))]) st rfl hm (by rw [hcells, hbb]; exact (perm_of fun f => by (simp only [List.map_append, List.map_cons, List.map_nil, List.sum_append, List.sum_cons, List.sum_nil] <;> omega)))
    | false =>
      cases hf : fits s.r amt with
      | false =>
        have nf := not_fits hf
        rw [fwdR_bad hxr hce hf]
        by_cases c1 : amt < 1
        · refine z_ ?_
          exact RQ.ret1 rfl (Res.tmp rfl) fun w' hm => fw_of (Lr := [(b5, .cells s.c.toArray 95 (0, 0)), (b3, .cells (fwdC i acct [o0, o1, o2, o3, o4, o5, o6, o7] amt).toArray 70 (0, 0))]) st rfl hm (by rw [hcells, hbb]; exact (perm_of fun f => by (simp only [List.map_append, List.map_cons, List.map_nil, List.sum_append, List.sum_cons, List.sum_nil] <;> omega)))
        by_cases c2 : 1125899906842624 < amt
        · refine z_ ?_
          exact RQ.ret1 rfl (Res.tmp rfl) fun w' hm => fw_of (Lr := [(b5, .cells s.c.toArray 95 (0, 0)), (b3, .cells (fwdC i acct [o0, o1, o2, o3, o4, o5, o6, o7] amt).toArray 70 (0, 0))]) st rfl hm (by rw [hcells, hbb]; exact (perm_of fun f => by (simp only [List.map_append, List.map_cons, List.map_nil, List.sum_append, List.sum_cons, List.sum_nil] <;> omega)))
        by_cases c3 : 1125899906842624 - amt < s.r.bal
        · refine z_ ?_
          exact RQ.ret1 rfl (Res.tmp rfl) fun w' hm => fw_of (Lr := [(b5, .cells s.c.toArray 95 (0, 0)), (b3, .cells (fwdC i acct [o0, o1, o2, o3, o4, o5, o6, o7] amt).toArray 70 (0, 0))]) st rfl hm (by rw [hcells, hbb]; exact (perm_of fun f => by (simp only [List.map_append, List.map_cons, List.map_nil, List.sum_append, List.sum_cons, List.sum_nil] <;> omega)))
        refine z_ ?_
        exact RQ.ret1 rfl (Res.tmp rfl) fun w' hm => fw_of (Lr := [(b5, .cells s.c.toArray 95 (0, 0)), (b3, .cells (fwdC i acct [o0, o1, o2, o3, o4, o5, o6, o7] amt).toArray 70 (0, 0))]) st rfl hm (by rw [hcells, hbb]; exact (perm_of fun f => by (simp only [List.map_append, List.map_cons, List.map_nil, List.sum_append, List.sum_cons, List.sum_nil] <;> omega)))
      | true =>
        have nf := is_fits hf
        rw [fwdR_ok hxr hce hf]
        obtain ⟨x1, hx1⟩ : ∃ x : SX, x = ⟨{ s.r with bal := s.r.bal + amt }, s.kv, s.uv, s.hk, s.hu⟩ := ⟨_, rfl⟩
        obtain ⟨x2, hx2⟩ : ∃ x : SX, x = ⟨s.r.plus amt, s.kv, s.uv, s.hk, s.hu⟩ := ⟨_, rfl⟩
        refine z_ ?_
        (repeat refine RC.seq ?_); refine RC.draw ([(b3, .cells (fwdC i acct [o0, o1, o2, o3, o4, o5, o6, o7] amt).toArray 70 (0, 0))]) mixed (N := 14) rfl ?_
        refine dt 0 ?_
        refine dt 2 ?_
        refine dt 3 ?_
        refine dt 5 ?_
        refine dt 7 ?_
        refine dt 8 ?_
        refine DR.two (i := 1) (j := 6) (by kernel_rfl) ?_ ?_
        refine DOp.vl rfl (vl (.int .i64 s.r.bal)) ?_
        refine dt 4 ?_
        refine DR.c 6 ?_
        refine DOp.vl rfl (vl (.int .i64 s.r.fwd)) ?_
        refine dt 9 ?_
        rotate_left
        refine DOp.vl rfl (vl (.int .i64 s.r.fwd)) ?_
        refine dt 9 ?_
        refine DR.c 1 ?_
        refine DOp.vl rfl (vl (.int .i64 s.r.bal)) ?_
        refine dt 4 ?_
        all_goals
          refine dt 10 ?_
          refine DR.c 11 (DOp.op1 rfl (os1 x1.c.toArray (he := by rw [hx1]; rfl)) (fun _ => ?_))
          refine dt 12 ?_
          refine DR.c 13 (DOp.op1 rfl (os1 x2.c.toArray (he := by rw [hx1, hx2]; rfl) (hf := by show 6 + 1 ≤ 42; decide)) (fun _ => ?_))
          refine DR.done (by kernel_rfl) ?_
          refine z_ ?_
        all_goals
          refine RC.drawS mixed (N := 9) rfl ?_
          refine dt 0 ?_
          refine dt 1 ?_
          refine dt 2 ?_
          refine dt 3 ?_
          refine dt 4 ?_
          refine dt 5 ?_
          refine DR.t 6 rfl (vla (hv := by exact x2.len)) ?_
          refine DR.t 7 rfl (vix i hin ⟨b, i * 42, none⟩) ?_
          refine DR.c 8 (DOp.op1 rfl (ost (L' := [(b5, .cells x2.c.toArray 95 (0, 0)), (b3, .cells (fwdC i acct [o0, o1, o2, o3, o4, o5, o6, o7] amt).toArray 70 (0, 0)), (sb, .cells #[.slice (some ⟨b, 0, none⟩) st.l.length vc] 63 (0, 0))]) (arr := (rws SX.c st.l ++ rest).toArray) (e := 95) (b := b) (off := i * 42) (v := .agg x2.c.toArray) (ti := ti95) (rws SX.c (st.l.set i x2) ++ rest).toArray (wr_row SX.len x2 hx) (by rw [List.size_toArray, h4]; show i * 42 + 42 ≤ vc * 42; have : (i + 1) * 42 ≤ vc * 42 := Nat.mul_le_mul_right _ (by omega); omega) x2.one (hL := (perm_of fun f => by (simp only [List.map_append, List.map_cons, List.map_nil, List.sum_append, List.sum_cons, List.sum_nil] <;> omega))) (hs := x2.len)) (fun _ => ?_))
          refine DR.done (by kernel_rfl) ?_
          refine z_ ?_
          have hrs : (st.l.set i x2).map SX.r = st.rs.set i (s.r.plus amt) := by rw [List.map_set, hx2]; rfl
          exact RQ.ret1 rfl (Res.tmp rfl) fun w' hm => fw_of (Lr := [(b5, .cells x2.c.toArray 95 (0, 0)), (b3, .cells (fwdC i acct [o0, o1, o2, o3, o4, o5, o6, o7] amt).toArray 70 (0, 0))]) (stPut st (b := b) (cap := vc) (rest := rest) (pool' := pool) x2 hx hv2 hbb h4 h2 h3 (by rw [hx2]; exact st.hk s (List.mem_of_getElem? hx)) (fun w hw => by rw [hx2]; exact st.kn w hw s (List.mem_of_getElem? hx)) (fun _ h => h)) hrs hm (by unfold StO.L stPut; exact (perm_of fun f => by (simp only [List.map_append, List.map_cons, List.map_nil, List.sum_append, List.sum_cons, List.sum_nil] <;> omega)))
  · rw [fwdR_no (by omega)]
    refine z_ ?_
    exact RQ.ret1 rfl (Res.tmp rfl) fun w' hm => fw_of (Lr := [(b3, .cells (fwdC i acct [o0, o1, o2, o3, o4, o5, o6, o7] amt).toArray 70 (0, 0))]) st rfl hm (by rw [hcells]; exact (perm_of fun f => by (simp only [List.map_append, List.map_cons, List.map_nil, List.sum_append, List.sum_cons, List.sum_nil] <;> omega)))

end Go.Proofs.YtkkfaffehbjdgaaGreatDoor
end
section
/- registry's law: hashes, SameCert, SameSide, Same. -/
namespace Go.Sha
end Go.Sha
namespace Go.Proofs.YtkkfaffehbjdgaaGreatDoor
attribute [local irreducible] Go.Vc.Run Go.Vc.RC Go.Vc.RQ Go.Vc.DR Go.Vc.DOp
open Go Go.Vc Go.Sha

end Go.Proofs.YtkkfaffehbjdgaaGreatDoor
end
section
/- registry's law: awake. -/
namespace Go.Vc
open Go Go.Sha
/-- A state without records. -/
def stNil (tS tR : TypeId) (sb : Nat) (pool : Hp) : StO tS tR sb pool := ⟨.slice none 0 0, [], [], Own.nil, by simp, Nat.zero_le _, fun s hs => (by cases hs), fun _ _ s hs => (by cases hs)⟩
theorem one_of {tS tR : TypeId} {sb : Nat} {pool : Hp} {st : StO tS tR sb pool} {r : Rc} (h : st.rs = [r]) : ∃ x, st.l = [x] ∧ x.r = r := by
  unfold StO.rs at h
  match hl : st.l with
  | [x] => rw [hl] at h; exact ⟨x, rfl, by simpa using h⟩
  | [] => rw [hl] at h; cases h
  | _ :: _ :: _ => rw [hl] at h; simp at h
end Go.Vc
namespace Go.Sha
end Go.Sha
namespace Go.Proofs.YtkkfaffehbjdgaaGreatDoor
attribute [local irreducible] Go.Vc.Run Go.Vc.RC Go.Vc.RQ Go.Vc.DR Go.Vc.DOp
open Go Go.Vc Go.Sha

end Go.Proofs.YtkkfaffehbjdgaaGreatDoor
end
section
/- cert: Fill, of one amount. -/
namespace Go.Proofs.YtkkfaffehbjdgaaGreatDoor
attribute [local irreducible] Go.Vc.Run Go.Vc.RC Go.Vc.RQ Go.Vc.DR Go.Vc.DOp Go.Vc.Knows Go.Vc.At
set_option maxHeartbeats 400000
set_option maxRecDepth 10000
open Go Go.Vc Go.Sha
def rc3 : Rc := rcNew 4 2 2 (certs 3) 3
def rcF (n : Int) : Rc := rc3.plus n
/-- Both states, with one record each. -/
structure FlZ (b rb : Nat) (n : Int) where
  pool : Hp
  st : PSt b pool
  hs : st.rs = [rcF n]
  rpool : Hp
  rst : RSt rb rpool
  hr : rst.rs = [rcF n]
def FlZ.L {b rb : Nat} {n : Int} (z : FlZ b rb n) : Hp := z.st.L ++ (z.pool ++ (z.rst.L ++ z.rpool))
def FlL (b rb : Nat) (n : Int) : Option (FlZ b rb n) → Hp
  | none => [(rb, Obj.cells #[.slice none 0 0] 63 (0, 0)), (b, Obj.cells #[.slice none 0 0] 81 (0, 0))]
  | some z => z.L
theorem cr3 : createR [] (mayP 4 2 2 (certs 3)) rc3 = ([rc3], 0, 0) := by
  rw [may_certs (by decide) (by decide) (by decide) (by decide)]
  exact createR_ok _ (show (0 : Nat) < 8 from by decide)
theorem fw3 {n : Int} (h : 1 ≤ n ∧ n ≤ 1000000) : fwdR [rc3] 0 n = ([rcF n], 0) :=
  fwdR_ok (i := 0) (r := rc3) (a := n) rfl rfl (by unfold fits; simp only [Bool.and_eq_true, decide_eq_true_eq]; refine ⟨by omega, ?_, ?_⟩ <;> (show (0 : Int) ≤ _; omega))
theorem fwdC_one (s a : Int) (o : List Nat) (m : Int) : ∀ u ∈ fwdC s a o m, u.oneCell' = true := by
  intro u hu
  unfold fwdC at hu
  simp only [List.mem_cons, List.mem_append, List.not_mem_nil, or_false] at hu
  rcases hu with rfl | rfl | hu | rfl
  · rfl
  · rfl
  · exact u8s_one _ u hu
  · rfl
set_option maxRecDepth 10000 in set_option maxHeartbeats 4000000 in
theorem Fill_calls (n : Int) (hn : 1 ≤ n ∧ n ≤ 1000000) (v : Value) (w : World) (hs : SrcW w 1 v 1 (i64L [n])) : Turns Tryz.prog 8 [v] w [] (Y := (b : Nat) × (rb : Nat) × FlZ b rb n) (fun y => .tuple #[.pointer (some ⟨y.1, 0, none⟩), .pointer (some ⟨y.2.1, 0, none⟩)]) (fun y => y.2.2.L) := by
  refine enter Tryz.func8 rfl (Mem.nil w []) rfl ?_
  obtain ⟨va, vc, rfl, hvc⟩ := hs.shape
  obtain ⟨ad, c', hv', hc', hcl, hr⟩ := hs.pos (by decide)
  cases hv'
  refine x_ ?_
  refine Run.op1 (OpTo.callNew Tryz.func17 rfl rfl rfl rfl rfl rfl (fun w' _ => RNew_calls w')) ?_
  intro b
  refine x_ ?_
  refine Run.nw (nbx) ?_
  intro rb
  refine x_ ?_
  refine RC.up 1 (D := Option (FlZ b rb n)) (fun k d => (k = 0 ∧ d = none) ∨ (k = 1 ∧ ∃ z, d = some z)) (fun k _ => [(6, .int .i64 k), (5, .pointer (some ⟨rb, 0, none⟩)), (4, .pointer (some ⟨b, 0, none⟩)), (0, .slice (some ad) 1 vc)]) (fun _ d => FlL b rb n d) 0 none (by decide) (.inl ⟨rfl, rfl⟩) ⟨rfl, rfl, rfl, rfl, trivial⟩ (List.Sublist.refl _) ?_
  rintro k d hk (⟨hk0, rfl⟩ | ⟨rfl, z, rfl⟩)
  rotate_left
  · refine x_ ?_
    exact RQ.ret2 rfl (Res.tmp rfl) (Res.tmp rfl) fun w' hm => Turns.of (Y := (b : Nat) × (rb : Nat) × FlZ b rb n) (V := fun y => .tuple #[.pointer (some ⟨y.1, 0, none⟩), .pointer (some ⟨y.2.1, 0, none⟩)]) (L' := fun y => y.2.2.L) (Lst := []) ⟨b, rb, z⟩ hm (Lr := []) (by rw [List.append_nil]; exact List.Perm.refl _)
  unfold FlL
  dsimp only
  have hcx : w.cell? (ad.add (k * 1)) = some (.int .i64 n) := by
    rw [hk0, Nat.zero_mul]
    exact hr 0 _ rfl
  refine x_ ?_
  refine Run.a (Val.ptrNe tabOk rfl rfl rfl rfl rfl) ?_
  refine x_ ?_
  refine Run.op1 (OpTo.callMkP Tryz.func19 rfl rfl rfl rfl rfl rfl (fun w' _ => Made_calls 3 2 w')) ?_
  rintro ⟨⟨kv, kb⟩, hown⟩
  dsimp only at hown ⊢
  have hC := fun w' h1 h2 => Create_calls (sb := b) (pool := []) (stNil _ _ b []) (ln := 4) (wd := 2) (nd := 2) (ks := certs 3) (certs_HL 3) (by rw [certs_len]; decide) (kv := kv) hown.one (ap := kb) (fun w hw => hown.srcW hw) 3 w' h1 h2
  have e1 : createR (stNil 81 45 b []).rs (mayP 4 2 2 (certs 3)) (rcNew 4 2 2 (certs 3) 3) = ([rc3], 0, 0) := cr3
  simp only [e1] at hC
  have hp1 : (kb ++ [(rb, Obj.cells #[.slice none 0 0] 63 (0, 0)), (b, Obj.cells #[.slice none 0 0] 81 (0, 0))] : Hp).Perm (((stNil 81 45 b []).L ++ kb) ++ [(rb, Obj.cells #[.slice none 0 0] 63 (0, 0))]) := by unfold StO.L stNil; exact (perm_of fun f => by (simp only [List.map_append, List.map_cons, List.map_nil, List.sum_append, List.sum_cons, List.sum_nil] <;> omega))
  refine Run.op1 (OpTo.callT Tryz.func18 hp1 (fun w' hm => hC w' (hasFs hp1 hm).1 (hasFs hp1 hm).2)) ?_
  rintro ⟨⟨np, st1⟩, hrs1⟩
  dsimp only at hrs1 ⊢
  rw [e1] at hrs1
  refine x_ ?_
  refine Run.op1 (OpTo.callMkP Tryz.func19 rfl rfl rfl rfl rfl rfl (fun w' _ => Made_calls 3 2 w')) ?_
  rintro ⟨⟨kv2, kb2⟩, hown2⟩
  dsimp only at hown2 ⊢
  have hD := fun w' h1 h2 => ref_Create_calls (sb := rb) (pool := []) (stNil _ _ rb []) (ln := 4) (wd := 2) (nd := 2) (ks := certs 3) (certs_HL 3) (by rw [certs_len]; decide) (kv := kv2) hown2.one (ap := kb2) (fun w hw => hown2.srcW hw) 3 w' h1 h2
  have e2 : createR (stNil 63 95 rb []).rs (mayP 4 2 2 (certs 3)) (rcNew 4 2 2 (certs 3) 3) = ([rc3], 0, 0) := cr3
  simp only [e2] at hD
  have hp2 : (kb2 ++ (st1.L ++ (np ++ kb) ++ [(rb, Obj.cells #[.slice none 0 0] 63 (0, 0))]) : Hp).Perm (((stNil 63 95 rb []).L ++ kb2) ++ (st1.L ++ (np ++ kb))) := by
    rw [show (stNil 63 95 rb []).L = [(rb, Obj.cells #[.slice none 0 0] 63 (0, 0))] from rfl]
    exact (perm_of fun f => by (simp only [List.map_append, List.map_cons, List.map_nil, List.sum_append, List.sum_cons, List.sum_nil] <;> omega))
  refine Run.op1 (OpTo.callT Tryz.func20 hp2 (fun w' hm => hD w' (hasFs hp2 hm).1 (hasFs hp2 hm).2)) ?_
  rintro ⟨⟨np2, rt1⟩, hrt1⟩
  dsimp only at hrt1 ⊢
  rw [e2] at hrt1
  have hnn : ∀ r ∈ [rc3], 0 ≤ r.bal ∧ 0 ≤ r.fwd := by intro r hr; rw [List.mem_singleton] at hr; subst hr; exact ⟨Int.le_refl _, Int.le_refl _⟩
  refine x_ ?_
  refine Run.a (vba (u8s [1, 0, 0, 0, 0, 0, 0, 0]).toArray) ?_
  refine x_ ?_
  refine Run.a (vbs (fwdC (k : Nat) 1 [1, 0, 0, 0, 0, 0, 0, 0] n).toArray) ?_
  rw [show ((k : Nat) : Int) = 0 by omega]
  refine x_ ?_
  refine Run.nw nal ?_
  intro b7
  refine x_ ?_
  refine Run.op1 (osa (arr := ti70.zero.cells) (e := 70) (L' := (rt1.L ++ (np2 ++ kb2)) ++ (st1.L ++ (np ++ kb))) (fwdC 0 1 [1, 0, 0, 0, 0, 0, 0, 0] n).toArray (fwdC_one _ _ _ _) (hL := List.Perm.refl _)) (fun _ => ?_)
  refine x_ ?_
  have hF := fun w' h1 h2 => Forward_calls st1 (by rw [hrs1]; exact hnn) 0 1 n (by decide) [1, 0, 0, 0, 0, 0, 0, 0] rfl w' h1 h2
  have e3 : fwdR st1.rs 0 n = ([rcF n], 0) := by rw [hrs1]; exact fw3 hn
  simp only [e3] at hF
  have hp3 : ((b7, Obj.cells (fwdC 0 1 [1, 0, 0, 0, 0, 0, 0, 0] n).toArray 70 (0, 0)) :: ((rt1.L ++ (np2 ++ kb2)) ++ (st1.L ++ (np ++ kb))) : Hp).Perm (st1.L ++ ((b7, Obj.cells (fwdC 0 1 [1, 0, 0, 0, 0, 0, 0, 0] n).toArray 70 (0, 0)) :: ((rt1.L ++ (np2 ++ kb2)) ++ (np ++ kb)))) := (perm_of fun f => by (simp only [List.map_append, List.map_cons, List.map_nil, List.sum_append, List.sum_cons, List.sum_nil] <;> omega))
  refine Run.op1 (OpTo.callT Tryz.func21 hp3 (fun w' hm => hF w' (hasFs hp3 hm).1 (hasFs hp3 hm).2)) ?_
  rintro ⟨st2, hrs2⟩
  dsimp only at hrs2 ⊢
  rw [e3] at hrs2
  refine x_ ?_
  have hG := fun w' h1 h2 => ref_Forward_calls rt1 (by rw [hrt1]; exact hnn) 0 1 n (by decide) [1, 0, 0, 0, 0, 0, 0, 0] rfl w' h1 h2
  have e4 : fwdR rt1.rs 0 n = ([rcF n], 0) := by rw [hrt1]; exact fw3 hn
  simp only [e4] at hG
  have hp4 : (st2.L ++ ((b7, Obj.cells (fwdC 0 1 [1, 0, 0, 0, 0, 0, 0, 0] n).toArray 70 (0, 0)) :: ((rt1.L ++ (np2 ++ kb2)) ++ (np ++ kb))) : Hp).Perm (rt1.L ++ (st2.L ++ ((b7, Obj.cells (fwdC 0 1 [1, 0, 0, 0, 0, 0, 0, 0] n).toArray 70 (0, 0)) :: ((np2 ++ kb2) ++ (np ++ kb))))) := (perm_of fun f => by (simp only [List.map_append, List.map_cons, List.map_nil, List.sum_append, List.sum_cons, List.sum_nil] <;> omega))
  refine Run.op1 (OpTo.callT Tryz.func22 hp4 (fun w' hm => hG w' (hasFs hp4 hm).1 (hasFs hp4 hm).2)) ?_
  rintro ⟨rt2, hrt2⟩
  dsimp only at hrt2 ⊢
  rw [e4] at hrt2
  refine x_ ?_
  exact RQ.upP (k + 1) (some ⟨np ++ [], st2, hrs2, np2 ++ [], rt2, hrt2⟩) (Nat.lt_succ_self _) (by omega) (.inr ⟨by omega, _, rfl⟩) ⟨congrArg (fun z => some (Value.int .i64 z)) (show (0 : Int) + 1 = ((k + 1 : Nat) : Int) by omega), rfl, rfl, rfl, trivial⟩ (L1 := (st2.L ++ ((np ++ []) ++ (rt2.L ++ (np2 ++ [])))) ++ ((b7, Obj.cells (fwdC 0 1 [1, 0, 0, 0, 0, 0, 0, 0] n).toArray 70 (0, 0)) :: (kb2 ++ kb))) (perm_of fun f => by (simp only [List.map_append, List.map_cons, List.map_nil, List.sum_append, List.sum_cons, List.sum_nil] <;> omega)) (List.sublist_append_left _ _)
end Go.Proofs.YtkkfaffehbjdgaaGreatDoor
end
section
/- cert: the state that Fill makes, as one record. -/
namespace Go.Proofs.YtkkfaffehbjdgaaGreatDoor
attribute [local irreducible] Go.Vc.Run Go.Vc.RC Go.Vc.RQ Go.Vc.DR Go.Vc.DOp Go.Vc.Knows Go.Vc.At
set_option maxHeartbeats 400000
set_option maxRecDepth 10000
open Go Go.Vc Go.Sha
theorem FlZ.kw {b rb : Nat} {n : Int} (z : FlZ b rb n) {w : World} (hw : Has z.pool w) : ∃ (bb cap : Nat) (rest : List Value) (x : KX), z.st.L = KW b bb cap rest x ∧ 42 + rest.length = cap * 42 ∧ x.d = ⟨rcF n, false, CeD.nul⟩ ∧ ∀ w, Has z.pool w → x.ok w := by
  obtain ⟨sx, hl, hr⟩ := one_of z.hs
  have hm : sx ∈ z.st.l := by rw [hl]; exact List.mem_singleton.2 rfl
  obtain ⟨b', cap, rest, hv, hbb, h1, h2, h3, h4⟩ := z.st.own.pos (by rw [hl]; exact Nat.zero_lt_one)
  have hrow : rws SX.c z.st.l = sx.c := by rw [hl]; exact rws_one _
  have hlen : z.st.l.length = 1 := by rw [hl]; rfl
  obtain ⟨ka, kc, hka, _⟩ := (z.st.kn w hw sx hm).1.shape
  obtain ⟨ua, uc, hua, _⟩ := (z.st.kn w hw sx hm).2.shape
  rw [hrow] at hbb h4
  rw [hlen] at hv
  refine ⟨b', cap, rest, ⟨⟨sx.r, false, CeD.nul⟩, (ka, kc), (none, 0), (none, 0), (ua, uc)⟩, ?_, ?_, by rw [hr], fun w' hw' => ?_⟩
  · have hc : KX.c ⟨⟨sx.r, false, CeD.nul⟩, (ka, kc), (none, 0), (none, 0), (ua, uc)⟩ = sx.c := by
      rw [kdC_base sx, hka, hua]
      rfl
    unfold StO.L KW
    rw [hv, hbb, hc]
  · rw [List.length_append, sx.len] at h4
    exact h4
  · have h := z.st.kn w' hw' sx hm
    rw [SX.ok, hka, hua] at h
    exact ⟨h.1, .nil, .nil, h.2⟩
end Go.Proofs.YtkkfaffehbjdgaaGreatDoor
end
section
/- cert: the plain law: what a plan's certificate is. -/
namespace Go.Proofs.YtkkfaffehbjdgaaGreatDoor
open Go Go.Vc Go.Sha
theorem outsI_mem {l : List Int} {o : OutD} (h : o ∈ outsI l) : ∃ i, ∃ a ∈ l, o = outI i a := by
  unfold outsI at h
  obtain ⟨i, hi, e⟩ := List.mem_mapIdx.1 h
  exact ⟨i, l[i], List.getElem_mem hi, e.symm⟩
theorem mayO_outsI {l : List Int} (h : ∀ a ∈ l, 1 ≤ a ∧ a ≤ 100000) (hl : l.length ≤ 16) : mayO (outsI l) := by
  refine ⟨fun o ho => ?_, by rw [outsI_len]; exact hl⟩
  obtain ⟨i, a, ha, rfl⟩ := outsI_mem ho
  have := h a ha
  refine ⟨?_, by show 1 ≤ a; omega, by show a ≤ maxMo; unfold maxMo; omega⟩
  intro e
  have : (1 : Nat) = 0 := congrArg (fun l : List Nat => l.headD 9) e
  omega
theorem crt_mayT {ep : Int} {q : Nat} {ams : List Int} {who : List Nat} {bd : Nat} (hep : 0 ≤ ep ∧ ep ≤ 400) (hq : q < 2147483648) (ha : ∀ a ∈ ams, 1 ≤ a ∧ a ≤ 100000) (hal : ams.length ≤ 16) : TxMay (crtT (crtP 0 ep q ams who bd)) :=
  TxMay.cert _ ⟨fun s hs => by rw [List.mem_singleton] at hs; subst hs; exact ⟨by decide, by decide⟩, ⟨by show (0 : Int) ≤ 0 ∧ (0 : Int) ≤ 7; decide, hep, by show (0 : Int) ≤ (q : Int) ∧ (q : Int) ≤ 2147483647; omega⟩, mayO_outsI ha hal, by show 1 ≤ 1 ∧ 1 ≤ 5; decide⟩
theorem payS_crt (sd ep : Int) (q : Nat) (ams : List Int) (who : List Nat) (bd : Nat) : payS (crtP sd ep q ams who bd) = ams.sum := by
  show ((outsI ams).map OutD.am).sum = ams.sum
  congr 1
  unfold outsI
  apply List.ext_getElem?
  intro i
  rw [List.getElem?_map, List.getElem?_mapIdx]
  cases ams[i]? <;> rfl
theorem crt_sgs {sd ep : Int} {q : Nat} {ams : List Int} {who : List Nat} {bd : Nat} {s : SgD} (h : s ∈ (crtP sd ep q ams who bd).sg) : ∃ i, ∃ k ∈ who, s.k = (k : Int) ∧ s.s.z = ((i % 8 : Nat) : Int) := by
  obtain ⟨y, hy, rfl⟩ := List.mem_map.1 h
  unfold sgL at hy
  obtain ⟨i, hi, rfl⟩ := List.mem_map.1 hy
  have hil : i < who.length := List.mem_range.1 hi
  refine ⟨i, who[i], List.getElem_mem hil, ?_, rfl⟩
  show (who.map fun k : Nat => (k : Int)).getD i 0 = _
  rw [List.getD_eq_getElem?_getD, List.getElem?_map, List.getElem?_eq_getElem hil]
  rfl
theorem crt_mayS {ep : Int} {q : Nat} {ams : List Int} {who : List Nat} {bd : Nat} (hep : 0 ≤ ep ∧ ep ≤ 400) (hq : q < 2147483648) (ha : ∀ a ∈ ams, 1 ≤ a ∧ a ≤ 100000) (hal : ams.length ≤ 16) (hw : 1 ≤ who.length ∧ who.length ≤ 5) (hk : ∀ k ∈ who, k ≤ 4) : TxMay (tCert (crtP 0 ep q ams who bd)) :=
  TxMay.cert _ ⟨fun s hs => by
    obtain ⟨i, k, hkm, e1, e2⟩ := crt_sgs hs
    have := hk k hkm
    exact ⟨by rw [e1]; omega, by rw [e2]; omega⟩, ⟨by show (0 : Int) ≤ 0 ∧ (0 : Int) ≤ 7; decide, hep, by show (0 : Int) ≤ (q : Int) ∧ (q : Int) ≤ 2147483647; omega⟩, mayO_outsI ha hal, by
    show 1 ≤ ((sgL _ _ _ _).map Sg.D).length ∧ ((sgL _ _ _ _).map Sg.D).length ≤ 5
    rw [List.length_map, sgL_len]
    exact hw⟩
theorem who_in {who : List Nat} {n : Nat} (h : ∀ k ∈ who, k < n) : inR n (who.map fun k : Nat => (k : Int)) := by
  intro i hi
  rw [List.length_map] at hi
  refine ⟨who[i], ?_, h _ (List.getElem_mem hi)⟩
  rw [List.getD_eq_getElem?_getD, List.getElem?_map, List.getElem?_eq_getElem hi]
  rfl
theorem chk_crt {n : Int} {p : Bool} {cc : CeD} {ep : Int} {q : Nat} {ams : List Int} {who : List Nat} {h : Int} {e : List Nat} (hep : 0 ≤ ep ∧ ep ≤ 400) (hq : q < 2147483648) (ha : ∀ a ∈ ams, 1 ≤ a ∧ a ≤ 100000) (hal : ams.length ≤ 16) (hw : 1 ≤ who.length ∧ who.length ≤ 5) (hin : ∀ k ∈ who, k < 3) :
    chkK ⟨rcF n, p, cc⟩ (crtP 0 ep q ams who 0) h e (sgL (crtH (crt0 0 ep q ams)) (who.map fun k : Nat => (k : Int)) [] who.length) = if fitsK ⟨rcF n, p, cc⟩ (crtP 0 ep q ams who 0) h e ≠ 0 then fitsK ⟨rcF n, p, cc⟩ (crtP 0 ep q ams who 0) h e else if (decide ((2 : Int) ≤ who.length) && incr (-1) (who.map fun k : Nat => (k : Int))) = true then 0 else 11 := by
  have h1 := chk_all (n := 3) (nd := 2) (m := crtH (crt0 0 ep q ams)) (who_in hin) (by decide) (by decide) (by decide) (by decide)
  rw [List.length_map] at h1
  unfold chkK
  rw [if_pos ⟨crt_mayT hep hq ha hal, crt_mayS hep hq ha hal hw fun k hk => by have := hin k hk; omega⟩]
  rw [← h1]
  rfl
end Go.Proofs.YtkkfaffehbjdgaaGreatDoor
end
section
/- cert: Fill, with the program's state as one record. -/
namespace Go.Proofs.YtkkfaffehbjdgaaGreatDoor
attribute [local irreducible] Go.Vc.Run Go.Vc.RC Go.Vc.RQ Go.Vc.DR Go.Vc.DOp Go.Vc.Knows Go.Vc.At
set_option maxHeartbeats 400000
set_option maxRecDepth 10000
open Go Go.Vc Go.Sha
theorem fits_crt {n : Int} {p : Bool} {cc : CeD} {ep : Int} {q : Nat} {ams : List Int} {who : List Nat} {bd : Nat} {h : Int} {e : List Nat} : fitsK ⟨rcF n, p, cc⟩ (crtP 0 ep q ams who bd) h e = if openB 3 4 2 ep h = false ∨ endB.1 ≠ e then 9 else if p = true ∧ (q : Int) ≤ cc.ql then 10 else if n < ams.sum then 5 else 0 := by
  unfold fitsK
  rw [payS_crt]
  have hb : (rcF n).bal = n := Int.zero_add n
  show (if false = true then (14 : Int) else if openB 3 4 2 ep h = false ∨ endB.1 ≠ e then 9 else if p = true ∧ (q : Int) ≤ cc.ql then 10 else if (rcF n).bal < ams.sum then 5 else 0) = _
  rw [hb, if_neg (by decide)]
theorem open_crt {ep h : Int} (hep : 0 ≤ ep ∧ ep ≤ 400) : openB 3 4 2 ep h = decide (3 + (ep + 1) * 4 < h ∧ h ≤ 3 + (ep + 1) * 4 + 2) := by
  have ht : timedB 3 4 2 = true := rfl
  unfold openB
  rw [ends_yes ht hep, ht, decide_eq_true hep, Bool.true_and, Bool.true_and]
  by_cases h1 : 3 + (ep + 1) * 4 < h
  · by_cases h2 : h ≤ 3 + (ep + 1) * 4 + 2
    · rw [decide_eq_true h1, decide_eq_true h2, decide_eq_true (And.intro h1 h2)]; rfl
    · rw [decide_eq_false h2, Bool.and_false, decide_eq_false fun q => h2 q.2]
  · rw [decide_eq_false h1, Bool.false_and, decide_eq_false fun q => h1 q.1]
theorem freshC {w w' : World} {S0 : List Nat} {L L1 : Hp} (hK : Laid w) (hS : 0 ∉ S0) (hm : Mem w S0 L w') (hs : ∀ p ∈ L1, p ∈ L) : 0 ∉ L1.map (·.1) := by
  intro h
  obtain ⟨p, hp, e⟩ := List.mem_map.1 h
  have hgl : 0 < w.heap.size := World.block_lt_of_cell? w ⟨0, 0, none⟩ (hK 0 (by decide))
  rcases hm.own p (hs p hp) with h1 | h1
  · rw [e] at h1; omega
  · rw [e] at h1; exact hS h1
structure FlY (n : Int) where
  b : Nat
  rb : Nat
  bb : Nat
  cap : Nat
  rest : List Value
  x : KX
  pool : Hp
  hcap : 42 + rest.length = cap * 42
  hd : x.d = ⟨rcF n, false, CeD.nul⟩
  hok : ∀ w, Has pool w → x.ok w
  rpool : Hp
  rst : RSt rb rpool
  hr : rst.rs = [rcF n]
def FlY.L {n : Int} (y : FlY n) : Hp := KW y.b y.bb y.cap y.rest y.x ++ (y.pool ++ (y.rst.L ++ y.rpool))
set_option maxRecDepth 10000 in set_option maxHeartbeats 4000000 in
theorem FillK_calls (n : Int) (hn : 1 ≤ n ∧ n ≤ 1000000) (v : Value) (w : World) (hs : SrcW w 1 v 1 (i64L [n])) : Turns Tryz.prog 8 [v] w [] (Y := FlY n) (fun y => .tuple #[.pointer (some ⟨y.b, 0, none⟩), .pointer (some ⟨y.rb, 0, none⟩)]) (fun y => y.L) := by
  refine (Fill_calls n hn v w hs).mono ?_
  rintro e w' ⟨⟨b, rb, z⟩, rfl, hf, hbl, hnew, hnd⟩
  have hp : Has z.pool w' := fun p hp => hbl p (List.mem_append_right _ (List.mem_append_left _ hp))
  obtain ⟨bb, cap, rest, x, h1, h2, h3, h4⟩ := z.kw hp
  have hL : z.L = KW b bb cap rest x ++ (z.pool ++ (z.rst.L ++ z.rpool)) := by unfold FlZ.L; rw [h1]
  dsimp only at hbl hnew hnd
  rw [hL] at hbl hnew hnd
  exact ⟨⟨b, rb, bb, cap, rest, x, z.pool, h2, h3, h4, z.rpool, z.rst, z.hr⟩, rfl, hf, hbl, hnew, hnd⟩
end Go.Proofs.YtkkfaffehbjdgaaGreatDoor
end
