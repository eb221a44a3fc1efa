/- registry's reference: Forward, Copy. -/
import Derived.Test.YtnhnihkpacibgaaRgI
set_option linter.unusedSimpArgs false
set_option linter.unusedVariables false
namespace Go.Proofs.Ytnhnihkpacibgaa
attribute [local irreducible] Go.Vc.Run Go.Vc.RC Go.Vc.RQ Go.Vc.DR Go.Vc.DOp
open Go Go.Vc Go.Sha

set_option maxRecDepth 10000 in set_option maxHeartbeats 4000000 in
theorem ref_Forward_calls {sb : Nat} {pool : Hp} (st : RSt sb pool) (hnn : ∀ r ∈ st.rs, 0 ≤ r.bal ∧ 0 ≤ r.fwd) (side acct amt : Int) (hsd : -9223372036854775808 ≤ side ∧ side ≤ 9223372036854775807) (o : List Nat) (ho : o.length = 8) (w : World)
    (hw : Has st.L w) (hnd : (st.L.map (·.1)).Nodup) :
    Turns Try.prog 20 [.pointer (some ⟨sb, 0, none⟩), .agg (fwdC side acct o amt).toArray] w st.L
      (Y := RwY sb pool (fwdR st.rs side amt).1) (fun _ => .int .i64 (fwdR st.rs side amt).2) (fun y => y.1.L) := by
  obtain ⟨va, vc, hv, hvc⟩ := st.own.shape
  have hcells : st.L = (sb, .cells #[.slice va st.l.length vc] 54 (0, 0)) :: st.bb := by unfold StO.L; rw [hv]
  have hlr : st.rs.length = st.l.length := List.length_map _
  have hst8 := st.h8
  obtain ⟨o0, o1, o2, o3, o4, o5, o6, o7, rfl⟩ := len8 ho
  refine enter Try.func20 rfl (Mem.init (S0 := st.L.map (·.1)) hw (fun p hp => List.mem_map_of_mem hp) hnd) rfl ?_
  rw [hcells]
  refine z_ ?_
  refine Run.nw nbx ?_
  intro b3
  refine z_ ?_
  (repeat refine RC.seq ?_); refine RC.drawS mixed (N := 13) rfl ?_
  refine dt 0 ?_
  refine dt 1 ?_
  refine dt 2 ?_
  refine dt 3 ?_
  by_cases h0 : side < 0
  · rw [fwdR_no (by omega)]
    refine DR.sT 9 ?_
    refine DR.p 4 rfl ?_
    refine DR.p 5 rfl ?_
    refine DR.p 6 rfl ?_
    refine DR.p 7 rfl ?_
    refine DR.p 8 rfl ?_
    refine DR.p 9 rfl ?_
    refine DR.p 10 rfl ?_
    refine DR.p 11 rfl ?_
    refine dt 12 ?_
    refine DR.done (by kernel_rfl) ?_
    refine z_ ?_
    exact RQ.ret1 rfl (Res.tmp rfl) fun w' hm => fw_of (Lr := [(b3, .cells (fwdC side acct [o0, o1, o2, o3, o4, o5, o6, o7] amt).toArray 37 (0, 0))]) st rfl hm (by rw [hcells]; exact (perm_of fun f => by (simp only [List.map_append, List.map_cons, List.map_nil, List.sum_append, List.sum_cons, List.sum_nil] <;> omega)))
  obtain ⟨i, rfl⟩ := Int.eq_ofNat_of_zero_le (show 0 ≤ side by omega)
  refine DR.sF 9 ?_
  refine dt 4 ?_
  refine dt 5 ?_
  refine dt 6 ?_
  refine dt 7 ?_
  refine dt 8 ?_
  refine dt 9 ?_
  refine dt 10 ?_
  refine dt 11 ?_
  refine dt 12 ?_
  refine DR.done (by kernel_rfl) ?_
  by_cases hin : i < st.l.length
  · obtain ⟨s, hx⟩ : ∃ s, st.l[i]? = some s := ⟨_, List.getElem?_eq_getElem hin⟩
    have hxr : st.rs[i]? = some s.r := by unfold StO.rs; rw [List.getElem?_map, hx]; rfl
    obtain ⟨b, cap, rest, hv2, hbb, h1, h2, h3, h4⟩ := st.own.pos (by omega)
    obtain ⟨n1, n2⟩ := hnn s.r (List.mem_of_getElem? hxr)
    have hvv := hv
    rw [hv2] at hvv
    cases hvv
    rw [hbb]
    refine z_ ?_
    (repeat refine RC.seq ?_); refine RC.drawS mixed (N := 10) rfl ?_
    refine dt 0 ?_
    refine dt 1 ?_
    refine dt 2 ?_
    refine dt 3 ?_
    refine dt 4 ?_
    refine dt 5 ?_
    refine DR.t 6 rfl (vix i hin ⟨b, i * 42, none⟩) ?_
    refine DR.t 7 rfl (vl (.agg s.c.toArray) (hv := by exact rdAt_row SX.len hx rfl rfl)) ?_
    refine DR.c 8 ?_
    refine DOp.op1 rfl (OpTo.new rfl rfl (nal)) ?_
    intro b5
    refine DR.c 9 (DOp.op1 rfl (osa s.c.toArray s.one) (fun _ => ?_))
    refine DR.done (by kernel_rfl) ?_
    cases hce : s.r.ce with
    | true =>
      rw [fwdR_ce hxr hce]
      refine z_ ?_
      exact RQ.ret1 rfl (Res.tmp rfl) fun w' hm => fw_of (Lr := [(b5, .cells s.c.toArray 65 (0, 0)), (b3, .cells (fwdC i acct [o0, o1, o2, o3, o4, o5, o6, o7] amt).toArray 37 (0, 0))]) st rfl hm (by rw [hcells, hbb]; exact (perm_of fun f => by (simp only [List.map_append, List.map_cons, List.map_nil, List.sum_append, List.sum_cons, List.sum_nil] <;> omega)))
    | false =>
      cases hf : fits s.r amt with
      | false =>
        have nf := not_fits hf
        rw [fwdR_bad hxr hce hf]
        by_cases c1 : amt < 1
        · refine z_ ?_
          exact RQ.ret1 rfl (Res.tmp rfl) fun w' hm => fw_of (Lr := [(b5, .cells s.c.toArray 65 (0, 0)), (b3, .cells (fwdC i acct [o0, o1, o2, o3, o4, o5, o6, o7] amt).toArray 37 (0, 0))]) st rfl hm (by rw [hcells, hbb]; exact (perm_of fun f => by (simp only [List.map_append, List.map_cons, List.map_nil, List.sum_append, List.sum_cons, List.sum_nil] <;> omega)))
        by_cases c2 : 1125899906842624 < amt
        · refine z_ ?_
          exact RQ.ret1 rfl (Res.tmp rfl) fun w' hm => fw_of (Lr := [(b5, .cells s.c.toArray 65 (0, 0)), (b3, .cells (fwdC i acct [o0, o1, o2, o3, o4, o5, o6, o7] amt).toArray 37 (0, 0))]) st rfl hm (by rw [hcells, hbb]; exact (perm_of fun f => by (simp only [List.map_append, List.map_cons, List.map_nil, List.sum_append, List.sum_cons, List.sum_nil] <;> omega)))
        by_cases c3 : 1125899906842624 - amt < s.r.bal
        · refine z_ ?_
          exact RQ.ret1 rfl (Res.tmp rfl) fun w' hm => fw_of (Lr := [(b5, .cells s.c.toArray 65 (0, 0)), (b3, .cells (fwdC i acct [o0, o1, o2, o3, o4, o5, o6, o7] amt).toArray 37 (0, 0))]) st rfl hm (by rw [hcells, hbb]; exact (perm_of fun f => by (simp only [List.map_append, List.map_cons, List.map_nil, List.sum_append, List.sum_cons, List.sum_nil] <;> omega)))
        refine z_ ?_
        exact RQ.ret1 rfl (Res.tmp rfl) fun w' hm => fw_of (Lr := [(b5, .cells s.c.toArray 65 (0, 0)), (b3, .cells (fwdC i acct [o0, o1, o2, o3, o4, o5, o6, o7] amt).toArray 37 (0, 0))]) st rfl hm (by rw [hcells, hbb]; exact (perm_of fun f => by (simp only [List.map_append, List.map_cons, List.map_nil, List.sum_append, List.sum_cons, List.sum_nil] <;> omega)))
      | true =>
        have nf := is_fits hf
        rw [fwdR_ok hxr hce hf]
        obtain ⟨x1, hx1⟩ : ∃ x : SX, x = ⟨{ s.r with bal := s.r.bal + amt }, s.kv, s.uv, s.hk, s.hu⟩ := ⟨_, rfl⟩
        obtain ⟨x2, hx2⟩ : ∃ x : SX, x = ⟨s.r.plus amt, s.kv, s.uv, s.hk, s.hu⟩ := ⟨_, rfl⟩
        refine z_ ?_
        (repeat refine RC.seq ?_); refine RC.draw ([(b3, .cells (fwdC i acct [o0, o1, o2, o3, o4, o5, o6, o7] amt).toArray 37 (0, 0))]) mixed (N := 14) rfl ?_
        refine dt 0 ?_
        refine dt 2 ?_
        refine dt 3 ?_
        refine dt 5 ?_
        refine dt 7 ?_
        refine dt 8 ?_
        refine DR.two (i := 1) (j := 6) (by kernel_rfl) ?_ ?_
        refine DOp.vl rfl (vl (.int .i64 s.r.bal)) ?_
        refine dt 4 ?_
        refine DR.c 6 ?_
        refine DOp.vl rfl (vl (.int .i64 s.r.fwd)) ?_
        refine dt 9 ?_
        rotate_left
        refine DOp.vl rfl (vl (.int .i64 s.r.fwd)) ?_
        refine dt 9 ?_
        refine DR.c 1 ?_
        refine DOp.vl rfl (vl (.int .i64 s.r.bal)) ?_
        refine dt 4 ?_
        all_goals
          refine dt 10 ?_
          refine DR.c 11 (DOp.op1 rfl (os1 x1.c.toArray (he := by rw [hx1]; rfl)) (fun _ => ?_))
          refine dt 12 ?_
          refine DR.c 13 (DOp.op1 rfl (os1 x2.c.toArray (he := by rw [hx1, hx2]; rfl) (hf := by show 6 + 1 ≤ 42; decide)) (fun _ => ?_))
          refine DR.done (by kernel_rfl) ?_
          refine z_ ?_
        all_goals
          refine RC.drawS mixed (N := 9) rfl ?_
          refine dt 0 ?_
          refine dt 1 ?_
          refine dt 2 ?_
          refine dt 3 ?_
          refine dt 4 ?_
          refine dt 5 ?_
          refine DR.t 6 rfl (vla (hv := by exact x2.len)) ?_
          refine DR.t 7 rfl (vix i hin ⟨b, i * 42, none⟩) ?_
          refine DR.c 8 (DOp.op1 rfl (ost (L' := [(b5, .cells x2.c.toArray 65 (0, 0)), (b3, .cells (fwdC i acct [o0, o1, o2, o3, o4, o5, o6, o7] amt).toArray 37 (0, 0)), (sb, .cells #[.slice (some ⟨b, 0, none⟩) st.l.length vc] 54 (0, 0))]) (arr := (rws SX.c st.l ++ rest).toArray) (e := 65) (b := b) (off := i * 42) (v := .agg x2.c.toArray) (ti := ti65) (rws SX.c (st.l.set i x2) ++ rest).toArray (wr_row SX.len x2 hx) (by rw [List.size_toArray, h4]; show i * 42 + 42 ≤ vc * 42; have : (i + 1) * 42 ≤ vc * 42 := Nat.mul_le_mul_right _ (by omega); omega) x2.one (hL := (perm_of fun f => by (simp only [List.map_append, List.map_cons, List.map_nil, List.sum_append, List.sum_cons, List.sum_nil] <;> omega))) (hs := x2.len)) (fun _ => ?_))
          refine DR.done (by kernel_rfl) ?_
          refine z_ ?_
          have hrs : (st.l.set i x2).map SX.r = st.rs.set i (s.r.plus amt) := by rw [List.map_set, hx2]; rfl
          exact RQ.ret1 rfl (Res.tmp rfl) fun w' hm => fw_of (Lr := [(b5, .cells x2.c.toArray 65 (0, 0)), (b3, .cells (fwdC i acct [o0, o1, o2, o3, o4, o5, o6, o7] amt).toArray 37 (0, 0))]) (stPut st (b := b) (cap := vc) (rest := rest) (pool' := pool) x2 hx hv2 hbb h4 h2 h3 (by rw [hx2]; exact st.hk s (List.mem_of_getElem? hx)) (fun w hw => by rw [hx2]; exact st.kn w hw s (List.mem_of_getElem? hx)) (fun _ h => h)) hrs hm (by unfold StO.L stPut; exact (perm_of fun f => by (simp only [List.map_append, List.map_cons, List.map_nil, List.sum_append, List.sum_cons, List.sum_nil] <;> omega)))
  · rw [fwdR_no (by omega)]
    refine z_ ?_
    exact RQ.ret1 rfl (Res.tmp rfl) fun w' hm => fw_of (Lr := [(b3, .cells (fwdC i acct [o0, o1, o2, o3, o4, o5, o6, o7] amt).toArray 37 (0, 0))]) st rfl hm (by rw [hcells]; exact (perm_of fun f => by (simp only [List.map_append, List.map_cons, List.map_nil, List.sum_append, List.sum_cons, List.sum_nil] <;> omega)))

abbrev RpY (pool : Hp) (rs : List Rc) := {y : (sb : Nat) × RSt sb pool // y.2.rs = rs}
set_option maxRecDepth 10000 in set_option maxHeartbeats 4000000 in
theorem ref_Copy_calls {sb : Nat} {pool : Hp} (st : RSt sb pool) (w : World) (hst : StW 54 w sb st.v st.l) :
    Turns Try.prog 22 [.pointer (some ⟨sb, 0, none⟩)] w [] (Y := RpY pool st.rs) (fun y => .pointer (some ⟨y.1.1, 0, none⟩)) (fun y => y.1.2.L) := by
  refine enter Try.func22 rfl (Mem.nil w []) rfl ?_
  obtain ⟨hs1, hs2, hs3⟩ := hst
  obtain ⟨a, c, hv, hc⟩ := hs2.shape
  rw [hv] at hs1 hs2
  have hcell := cell_sb hs1
  have hst8 := st.h8
  refine z_ ?_
  refine Run.a (vlo hcell) ?_
  refine z_ ?_
  refine Run.op1 (OpTo.append (L1 := []) tabOk Own.nil hs2.src rfl rfl rfl rfl rfl rfl rfl rfl rfl (List.Perm.refl _) (rws_one' fun s _ => s.one) (by unfold maxLen; omega) (by simp only [ti65]; omega)) ?_
  rintro ⟨⟨v9, bl9⟩, hown9⟩
  dsimp only at hown9 ⊢
  rw [Nat.zero_add, List.nil_append] at hown9
  refine Run.a (vbs #[v9] (hf := by obtain ⟨a9, c9, rfl, _⟩ := hown9.shape; rfl)) ?_
  refine Run.nw nbx ?_
  intro b
  refine z_ ?_
  refine RQ.ret1 rfl (Res.tmp rfl) fun w' hm => ?_
  have hnd := hm.nd
  rw [List.map_cons, List.map_append, ← List.cons_append] at hnd
  exact Turns.of (Lst := []) (Lr := []) (Y := RpY pool st.rs) (V := fun y => .pointer (some ⟨y.1.1, 0, none⟩)) (L' := fun y => y.1.2.L) ⟨⟨b, ⟨v9, bl9, st.l, hown9, (List.nodup_append.1 hnd).1, st.h8, st.hk, st.kn⟩⟩, rfl⟩ hm (by unfold StO.L; exact (perm_of fun f => by (simp only [List.map_append, List.map_cons, List.map_nil, List.sum_append, List.sum_cons, List.sum_nil] <;> omega)))
end Go.Proofs.Ytnhnihkpacibgaa
