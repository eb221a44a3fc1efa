/- registry's reference: Total, Create, Forward, Copy. -/
import Derived.Test.YtnhnihkpacibgaaRgG
set_option linter.unusedSimpArgs false
set_option linter.unusedVariables false
namespace Go.Proofs.Ytnhnihkpacibgaa
attribute [local irreducible] Go.Vc.Run Go.Vc.RC Go.Vc.RQ Go.Vc.DR Go.Vc.DOp
open Go Go.Vc Go.Sha

set_option maxRecDepth 10000 in set_option maxHeartbeats 4000000 in
theorem ref_Total_calls {l : List SX} (hll : l.length ≤ 8) (hnn : ∀ r ∈ l.map SX.r, 0 ≤ r.bal) (htt : totR (l.map SX.r) ≤ 9223372036854775807) (sb : Nat) (v : Value) (w : World) (hst : StW 54 w sb v l) :
    Gives Try.prog 38 [.pointer (some ⟨sb, 0, none⟩)] (.int .i64 (totR (l.map SX.r))) w := by
  refine enter Try.func38 rfl (Mem.nil w []) rfl ?_
  obtain ⟨hs1, hs2, hs3⟩ := hst
  obtain ⟨a, c, rfl, hc⟩ := hs2.shape
  have hcell := cell_sb hs1
  refine z_ ?_
  refine RC.up l.length (D := Unit) (fun _ _ => True) (fun i _ => [(4, .int .i64 i), (3, .int .i64 (totR ((l.map SX.r).take i))), (0, .pointer (some ⟨sb, 0, none⟩))])
    (fun _ _ => []) 0 () (Nat.zero_le _) trivial ⟨rfl, rfl, rfl, trivial⟩ (List.nil_sublist _) ?_
  intro i _ hi _
  refine z_ ?_
  refine Run.a (vlo hcell) ?_
  refine z_ ?_
  (repeat refine RC.seq ?_); refine RC.wh rfl (fun h => RQ.next ?_) (fun h => ?_)
  · have hi' : i < l.length := by have := of_decide_eq_true h; omega
    clear h
    obtain ⟨s, hx⟩ : ∃ s, l[i]? = some s := ⟨_, List.getElem?_eq_getElem hi'⟩
    obtain ⟨ad, c', hv', hc', hcl, hr⟩ := hs2.pos (by omega)
    cases hv'
    have hb : w.cell? ((ad.add (i * 42)).add 5) = some (.int .i64 s.r.bal) := by
      rw [add_add]; exact hr _ _ (rws_at SX.len hx 5 _ rfl)
    have hnx : totR ((l.map SX.r).take (i + 1)) = totR ((l.map SX.r).take i) + s.r.bal := by
      rw [List.take_add_one, List.getElem?_map, hx, totR_app]
      show _ + (s.r.bal + 0) = _
      rw [Int.add_zero]
    have b1 := totR_take hnn i
    have b2 := totR_take hnn (i + 1)
    rw [hnx] at b2
    refine z_ ?_
    refine Run.a (vlo hcell) ?_
    refine z_ ?_
    refine Run.a (vix i hi' (ad.add (i * 42))) ?_
    refine Run.a (vfA) ?_
    refine Run.a (vlo hb) ?_
    refine z_ ?_
    exact RQ.up (i + 1) () (Nat.lt_succ_self _) hi' trivial ⟨rfl, by rw [hnx]; rfl, rfl, trivial⟩ (List.nil_sublist _)
  · have hi' : i = l.length := by have := of_decide_eq_false h; omega
    subst hi'
    rw [show (l.map SX.r).take l.length = l.map SX.r from List.take_of_length_le (by simp)]
    (repeat refine RQ.thenExit ?_); refine RQ.blockHere ?_
    refine RQ.next ?_
    refine z_ ?_
    exact RQ.ret1 rfl (Res.tmp rfl) fun w' hm => ⟨rfl, hm.fr⟩

set_option maxRecDepth 10000 in set_option maxHeartbeats 4000000 in
theorem ref_Create_calls {sb : Nat} {pool : Hp} (st : RSt sb pool) {ln wd nd : Int} {ks : List (List Nat)} (hH : HL ks) (hkl : ks.length ≤ 1000000) {kv : Value} (hk1 : kv.oneCell' = true) {ap : Hp} (hk : ∀ w, Has ap w → SrcW w 8 kv ks.length (u8s ks.flatten)) (h : Int) (w : World)
    (hw : Has (st.L ++ ap) w) (hnd : ((st.L ++ ap).map (·.1)).Nodup) :
    Turns Try.prog 19 [.pointer (some ⟨sb, 0, none⟩), .agg (prm ln wd nd kv).toArray, .int .i64 h] w (st.L ++ ap)
      (Y := RrY sb pool (createR st.rs (mayP ln wd nd ks) (rcNew ln wd nd ks h)).1)
      (fun _ => .tuple #[.int .i64 (createR st.rs (mayP ln wd nd ks) (rcNew ln wd nd ks h)).2.1, .int .i64 (createR st.rs (mayP ln wd nd ks) (rcNew ln wd nd ks h)).2.2]) (fun y => y.1.2.L ++ (y.1.1 ++ ap)) := by
  refine enter Try.func19 rfl (Mem.init (S0 := (st.L ++ ap).map (·.1)) hw (fun p hp => List.mem_map_of_mem hp) hnd) rfl ?_
  have hM := fun w' hs' => MayParams_calls ln wd nd ks hH (by omega) kv w' hs'
  have hlr : st.rs.length = st.l.length := List.length_map _
  have hap : ∀ {w' : World} {L1 : Hp}, Mem w ((st.L ++ ap).map (·.1)) (L1 ++ (st.L ++ ap)) w' → Has ap w' := fun hm p hp => hm.has p (List.mem_append_right _ (List.mem_append_right _ hp))
  have hapw : Has ap w := hw.right
  refine z_ ?_
  refine Run.nw nbx ?_
  intro b4
  refine z_ ?_
  refine Run.op1 (OpTo.cv Try.func37 (fun w' hm => hM w' (hk w' (hap (L1 := [_]) hm)))) (fun _ => ?_)
  cases hmay : mayP ln wd nd ks with
  | false =>
    rw [createR_bad]
    refine z_ ?_
    exact RQ.ret2 rfl (Res.tmp rfl) (Res.tmp rfl) fun w' hm => cr_of (Lr := [(b4, .cells (prm ln wd nd kv).toArray 31 (0, 0))]) [] st rfl hm (perm_of fun f => by (simp only [List.map_append, List.map_cons, List.map_nil, List.sum_append, List.sum_cons, List.sum_nil] <;> omega))
  | true =>
    obtain ⟨va, vc, hv, hvc⟩ := st.own.shape
    have hcells : st.L = (sb, .cells #[.slice va st.l.length vc] 54 (0, 0)) :: st.bb := by unfold StO.L; rw [hv]
    have hown := st.own
    rw [hv] at hown
    rw [show (st.L ++ ap) = (sb, .cells #[.slice va st.l.length vc] 54 (0, 0)) :: (st.bb ++ ap) by rw [hcells]; rfl] at hap ⊢
    by_cases h8 : st.l.length < 8
    · rw [createR_ok _ (by omega), hlr]
      refine z_ ?_
      refine Run.op1 (OpTo.append (L1 := (b4, .cells (prm ln wd nd kv).toArray 31 (0, 0)) :: (sb, .cells #[.slice va st.l.length vc] 54 (0, 0)) :: (st.bb ++ ap)) tabOk Own.nil (Src.ofHas hk (fun p hp => List.mem_cons_of_mem _ (List.mem_cons_of_mem _ (List.mem_append_right _ hp))) hapw) rfl rfl rfl rfl rfl rfl rfl rfl rfl (List.Perm.refl _) (u8s_one _) (by unfold maxLen; omega) (by simp only [ti35]; omega)) ?_
      rintro ⟨⟨kv2, kb⟩, hown2⟩
      dsimp only at hown2 ⊢
      rw [Nat.zero_add, List.nil_append] at hown2
      have hko := hown2.one
      obtain ⟨ka, kc, rfl, hkc⟩ := hown2.shape
      refine z_ ?_
      refine Run.op1 (os1 (prm ln wd nd (.slice ka ks.length kc)).toArray) (fun _ => ?_)
      refine z_ ?_
      obtain ⟨x, hxr, hx⟩ : ∃ x : SX, x.r = rcNew ln wd nd ks h ∧ x = ⟨rcNew ln wd nd ks h, .slice ka ks.length kc, .slice none 0 0, hko, rfl⟩ := ⟨_, rfl, rfl⟩
      have hxc : x.c = (rcNew ln wd nd ks h).c (.slice ka ks.length kc) (.slice none 0 0) := by rw [hx]; rfl
      have hl2 := x.len
      (repeat refine RC.seq ?_); refine RC.draw ([(b4, .cells (prm ln wd nd (.slice ka ks.length kc)).toArray 31 (0, 0)), (sb, .cells #[.slice va st.l.length vc] 54 (0, 0))]) mixed (N := 14) rfl ?_
      refine dt 0 ?_
      refine dt 1 ?_
      refine dt 2 ?_
      refine dt 3 ?_
      refine dt 4 ?_
      refine dt 6 ?_
      refine dt 7 ?_
      refine DR.t 8 rfl (vbs x.c.toArray (hf := by rw [hxc]; kernel_rfl)) ?_
      refine DR.two (i := 5) (j := 9) (by kernel_rfl) ?_ ?_
      refine DOp.op1 rfl (OpTo.append (L1 := (b4, .cells (prm ln wd nd (.slice ka ks.length kc)).toArray 31 (0, 0)) :: (kb ++ (sb, .cells #[.slice va st.l.length vc] 54 (0, 0)) :: (st.bb ++ ap))) tabOk Own.nil (hown.src (fun p hp => List.mem_cons_of_mem _ (List.mem_append_right _ (List.mem_cons_of_mem _ (List.mem_append_left _ hp))))) rfl rfl rfl rfl rfl rfl rfl rfl rfl (List.Perm.refl _) (rws_one' fun s _ => s.one) (by unfold maxLen; omega) (by simp only [ti65]; omega)) ?_
      rintro ⟨⟨v26, bl26⟩, hown26⟩
      dsimp only at hown26 ⊢
      rw [Nat.zero_add, List.nil_append] at hown26
      refine DR.c 9 ?_
      refine DOp.op1 rfl (OpTo.new rfl rfl (nbsl x.c.toArray (fillS_1 42 _ x.c hl2))) ?_
      intro b31
      refine DR.weak rfl (E' := [(26, v26), (30, .slice (some ⟨b31, 0, none⟩) 1 1), (21, .pointer (some ⟨sb, 0, none⟩)), (0, .pointer (some ⟨sb, 0, none⟩))]) (L' := bl26 ++ ((b31, .cells x.c.toArray 65 (0, 0)) :: (b4, .cells (prm ln wd nd (.slice ka ks.length kc)).toArray 31 (0, 0)) :: (kb ++ (sb, .cells #[.slice va st.l.length vc] 54 (0, 0)) :: (st.bb ++ ap)))) ⟨rfl, rfl, rfl, rfl, trivial⟩ (perm_of fun f => by (simp only [List.map_append, List.map_cons, List.map_nil, List.sum_append, List.sum_cons, List.sum_nil] <;> omega)) ?_
      rotate_left
      refine DOp.op1 rfl (OpTo.new rfl rfl (nbsl x.c.toArray (fillS_1 42 _ x.c hl2))) ?_
      intro b31
      refine DR.c 5 (DOp.op1 rfl (OpTo.append (L1 := (b31, .cells x.c.toArray 65 (0, 0)) :: (b4, .cells (prm ln wd nd (.slice ka ks.length kc)).toArray 31 (0, 0)) :: (kb ++ (sb, .cells #[.slice va st.l.length vc] 54 (0, 0)) :: (st.bb ++ ap))) tabOk Own.nil (hown.src (fun p hp => List.mem_cons_of_mem _ (List.mem_cons_of_mem _ (List.mem_append_right _ (List.mem_cons_of_mem _ (List.mem_append_left _ hp)))))) rfl rfl rfl rfl rfl rfl rfl rfl rfl (List.Perm.refl _) (rws_one' fun s _ => s.one) (by unfold maxLen; omega) (by simp only [ti65]; omega)) ?_)
      rintro ⟨⟨v26, bl26⟩, hown26⟩
      dsimp only at hown26 ⊢
      rw [Nat.zero_add, List.nil_append] at hown26
      refine DR.weak rfl (E' := [(26, v26), (30, .slice (some ⟨b31, 0, none⟩) 1 1), (21, .pointer (some ⟨sb, 0, none⟩)), (0, .pointer (some ⟨sb, 0, none⟩))]) (L' := bl26 ++ ((b31, .cells x.c.toArray 65 (0, 0)) :: (b4, .cells (prm ln wd nd (.slice ka ks.length kc)).toArray 31 (0, 0)) :: (kb ++ (sb, .cells #[.slice va st.l.length vc] 54 (0, 0)) :: (st.bb ++ ap)))) ⟨rfl, rfl, rfl, rfl, trivial⟩ (perm_of fun f => by (simp only [List.map_append, List.map_cons, List.map_nil, List.sum_append, List.sum_cons, List.sum_nil] <;> omega)) ?_
      all_goals
        refine DR.c 10 (DOp.op1 rfl (OpTo.append (L1 := (b31, .cells x.c.toArray 65 (0, 0)) :: (b4, .cells (prm ln wd nd (.slice ka ks.length kc)).toArray 31 (0, 0)) :: (kb ++ (sb, .cells #[.slice va st.l.length vc] 54 (0, 0)) :: (st.bb ++ ap))) tabOk hown26 (Src.at ⟨b31, 0, none⟩ 1 1 x.c (by rw [hl2]; rfl) (Rd.rowAll memA)) rfl rfl rfl rfl rfl rfl rfl rfl rfl (List.Perm.refl _) x.one (by unfold maxLen; omega) (by simp only [ti65]; omega)) ?_)
        rintro ⟨⟨v9, bl9⟩, hown9⟩
        dsimp only at hown9 ⊢
        obtain ⟨a9, c9, rfl, hc9⟩ := hown9.shape
        refine dt 11 ?_
        refine dt 12 ?_
        refine DR.c 13 (DOp.op1 rfl (os1 (arr := #[.slice va st.l.length vc]) (e := 54) (L' := bl9 ++ ((b31, .cells x.c.toArray 65 (0, 0)) :: (b4, .cells (prm ln wd nd (.slice ka ks.length kc)).toArray 31 (0, 0)) :: (kb ++ (st.bb ++ ap)))) #[.slice a9 (st.l.length + 1) c9] (hL := (perm_of fun f => by (simp only [List.map_append, List.map_cons, List.map_nil, List.sum_append, List.sum_cons, List.sum_nil] <;> omega)))) (fun _ => ?_))
        refine DR.done (by kernel_rfl) ?_
        refine z_ ?_
        refine RQ.ret2 rfl (Res.tmp rfl) (Res.tmp rfl) fun w' hm => ?_
        rw [show ((st.l.length + 1 : Nat) : Int) - 1 = (st.l.length : Int) from by omega]
        have hown' : Own 65 42 (.slice a9 (st.l.length + 1) c9) (st.l ++ [x]).length (rws SX.c (st.l ++ [x])) bl9 := by
          rw [rws_app, rws_one, List.length_append]; exact hown9
        have hnd' := hm.nd
        have hrs : (st.l ++ [x]).map SX.r = st.rs ++ [rcNew ln wd nd ks h] := by rw [List.map_append, List.map_cons, hxr]; rfl
        refine cr_of (sb := sb) (pool := pool) (ap := ap) kb ⟨_, bl9, st.l ++ [x], hown', ?_, by rw [List.length_append]; exact h8, ?_, ?_⟩ hrs hm (Lr := (b31, .cells x.c.toArray 65 (0, 0)) :: (b4, .cells (prm ln wd nd (.slice ka ks.length kc)).toArray 31 (0, 0)) :: st.bb) (by unfold StO.L; exact (perm_of fun f => by (simp only [List.map_append, List.map_cons, List.map_nil, List.sum_append, List.sum_cons, List.sum_nil] <;> omega)))
        · rw [List.map_cons, List.map_append, ← List.cons_append] at hnd'
          exact (List.nodup_append.1 hnd').1
        · intro s hs
          rcases List.mem_append.1 hs with hs | hs
          · exact st.hk s hs
          · rw [List.mem_singleton] at hs; subst hs; rw [hxr]; exact ⟨hkl, Nat.zero_le _⟩
        · intro w hw s hs
          rcases List.mem_append.1 hs with hs | hs
          · exact st.kn w hw.right s hs
          · rw [List.mem_singleton] at hs; subst hs; rw [hx]; exact ⟨hown2.srcW hw.left, SrcW.nil⟩
    · rw [createR_full _ (by omega)]
      refine z_ ?_
      exact RQ.ret2 rfl (Res.tmp rfl) (Res.tmp rfl) fun w' hm => cr_of (Lr := [(b4, .cells (prm ln wd nd kv).toArray 31 (0, 0))]) [] st rfl hm (by rw [hcells]; exact (perm_of fun f => by (simp only [List.map_append, List.map_cons, List.map_nil, List.sum_append, List.sum_cons, List.sum_nil] <;> omega)))
end Go.Proofs.Ytnhnihkpacibgaa
