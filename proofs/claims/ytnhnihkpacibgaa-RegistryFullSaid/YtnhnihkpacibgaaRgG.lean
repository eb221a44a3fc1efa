/- registry: Forward, Set. -/
import Derived.Test.YtnhnihkpacibgaaRgF
set_option linter.unusedSimpArgs false
set_option linter.unusedVariables false
namespace Go.Proofs.Ytnhnihkpacibgaa
attribute [local irreducible] Go.Vc.Run Go.Vc.RC Go.Vc.RQ Go.Vc.DR Go.Vc.DOp
open Go Go.Vc Go.Sha
abbrev TY (tS tR : TypeId) (sb : Nat) (pool : Hp) (rs : List Rc) := {y : StO tS tR sb pool // y.rs = rs}
abbrev FwY (sb : Nat) (pool : Hp) (rs : List Rc) := TY 76 44 sb pool rs
abbrev RwY (sb : Nat) (pool : Hp) (rs : List Rc) := TY 54 65 sb pool rs
theorem fw_of {tS tR : TypeId} {sb : Nat} {pool Lst L1 Lr : Hp} {rs : List Rc} {w w' : World} {x : Value} (st' : StO tS tR sb pool) (hrs : st'.rs = rs) (hm : Mem w (Lst.map (·.1)) L1 w') (hp : L1.Perm (st'.L ++ Lr)) :
    ∃ y' : TY tS tR sb pool rs, Ending.returned x = .returned x ∧ Fr (Lst.map (·.1)) w w' ∧ Has y'.1.L w' ∧ (∀ p ∈ y'.1.L, w.heap.size ≤ p.1 ∨ p.1 ∈ Lst.map (·.1)) ∧ (y'.1.L.map (·.1)).Nodup :=
  Turns.of (Y := TY tS tR sb pool rs) (V := fun _ => x) (L' := fun y => y.1.L) ⟨st', hrs⟩ hm hp
theorem not_fits {r : Rc} {a : Int} (h : fits r a = false) : ¬ (1 ≤ a ∧ a ≤ 1125899906842624 ∧ r.bal ≤ 1125899906842624 - a ∧ r.fwd ≤ 1125899906842624 - a) := by
  intro hh
  have : fits r a = true := by simp [fits]; omega
  rw [h] at this; cases this
theorem is_fits {r : Rc} {a : Int} (h : fits r a = true) : 1 ≤ a ∧ a ≤ 1125899906842624 ∧ r.bal ≤ 1125899906842624 - a ∧ r.fwd ≤ 1125899906842624 - a := by
  simp [fits] at h; omega
/-- Another record stands in the place of one. -/
def stPut {tS tR : TypeId} {sb : Nat} {pool pool' : Hp} (st : StO tS tR sb pool) {b cap : Nat} {rest : List Value} {i : Nat} {s : SX} (x : SX) (hx : st.l[i]? = some s) (hv : st.v = .slice (some ⟨b, 0, none⟩) st.l.length cap) (hb : st.bb = [(b, .cells (rws SX.c st.l ++ rest).toArray tR (0, 0))])
    (h2 : (rws SX.c st.l ++ rest).length = cap * 42) (h3 : st.l.length ≤ cap) (h4 : cap ≤ maxLen) (hk : x.r.keys.length ≤ 1000000 ∧ x.r.used.length ≤ 1000000) (hok : ∀ w, Has pool' w → x.ok w) (hpp : ∀ p ∈ pool, p ∈ pool') : StO tS tR sb pool' where
  v := .slice (some ⟨b, 0, none⟩) st.l.length cap
  bb := [(b, .cells (rws SX.c (st.l.set i x) ++ rest).toArray tR (0, 0))]
  l := st.l.set i x
  own := by
    have h1 : (rws SX.c (st.l.set i x)).length = (rws SX.c st.l).length := by rw [rws_len SX.len, rws_len SX.len, List.length_set]
    rw [show (.slice (some ⟨b, 0, none⟩) st.l.length cap : Value) = .slice (some ⟨b, 0, none⟩) (st.l.set i x).length cap from by rw [List.length_set]]
    exact Own.row b _ cap _ rest (by rw [rws_len SX.len]) (by rw [List.length_append] at h2 ⊢; rw [h1]; exact h2) (by rw [List.length_set]; exact h3) h4
  nd := by have := st.nd; rw [hb] at this; exact this
  h8 := by rw [List.length_set]; exact st.h8
  hk := fun t ht => by
    rcases List.mem_or_eq_of_mem_set ht with ht | rfl
    · exact st.hk t ht
    · exact hk
  kn := fun w hw t ht => by
    rcases List.mem_or_eq_of_mem_set ht with ht | rfl
    · exact st.kn w (hw.sub hpp) t ht
    · exact hok w hw

set_option maxRecDepth 10000 in set_option maxHeartbeats 4000000 in
theorem Forward_calls {sb : Nat} {pool : Hp} (st : PSt sb pool) (hnn : ∀ r ∈ st.rs, 0 ≤ r.bal ∧ 0 ≤ r.fwd) (side acct amt : Int) (hsd : -9223372036854775808 ≤ side ∧ side ≤ 9223372036854775807) (o : List Nat) (ho : o.length = 8) (w : World)
    (hw : Has st.L w) (hnd : (st.L.map (·.1)).Nodup) :
    Turns Try.prog 13 [.pointer (some ⟨sb, 0, none⟩), .agg (fwdC side acct o amt).toArray] w st.L
      (Y := FwY sb pool (fwdR st.rs side amt).1) (fun _ => .int .i64 (fwdR st.rs side amt).2) (fun y => y.1.L) := by
  obtain ⟨va, vc, hv, hvc⟩ := st.own.shape
  have hcells : st.L = (sb, .cells #[.slice va st.l.length vc] 76 (0, 0)) :: st.bb := by unfold StO.L; rw [hv]
  have hlr : st.rs.length = st.l.length := List.length_map _
  have hI := fun w' hs' => in_calls sb st.l.length vc va (by have := st.h8; omega) side w' hs'
  have hat := fwdC_at (s := side) (a := acct) (m := amt) ho
  refine enter Try.func13 rfl (Mem.init (S0 := st.L.map (·.1)) hw (fun p hp => List.mem_map_of_mem hp) hnd) rfl ?_
  rw [hcells]
  refine z_ ?_
  refine Run.nw nbx ?_
  intro b3
  refine z_ ?_
  refine Run.op1 (OpTo.cv Try.func35 (fun w' hm => hI w' (hm.has _ m1))) (fun _ => ?_)
  by_cases hin : 0 ≤ side ∧ side < st.l.length
  · obtain ⟨i, rfl⟩ := Int.eq_ofNat_of_zero_le hin.1
    have hi : i < st.l.length := by omega
    obtain ⟨s, hx⟩ : ∃ s, st.l[i]? = some s := ⟨_, List.getElem?_eq_getElem hi⟩
    have hxr : st.rs[i]? = some s.r := by unfold StO.rs; rw [List.getElem?_map, hx]; rfl
    obtain ⟨b, cap, rest, hv2, hbb, h1, h2, h3, h4⟩ := st.own.pos (by omega)
    obtain ⟨n1, n2⟩ := hnn s.r (List.mem_of_getElem? hxr)
    have hvv := hv
    rw [hv2] at hvv
    cases hvv
    rw [hbb]
    obtain ⟨o0, o1, o2, o3, o4, o5, o6, o7, rfl⟩ := len8 ho
    have hl42 : i * 42 + 42 ≤ (rws SX.c st.l ++ rest).length := by
      have : (i + 1) * 42 ≤ st.l.length * 42 := Nat.mul_le_mul_right _ hi
      rw [List.length_append, h1]; omega
    have hend : ∀ (e : Value) (w' : World), Mem w (((sb, .cells #[.slice (some ⟨b, 0, none⟩) st.l.length vc] 76 (0, 0)) :: [(b, Obj.cells (rws SX.c st.l ++ rest).toArray 44 (0, 0))] : Hp).map (·.1)) [(b3, .cells (fwdC i acct [o0, o1, o2, o3, o4, o5, o6, o7] amt).toArray 37 (0, 0)), (sb, .cells #[.slice (some ⟨b, 0, none⟩) st.l.length vc] 76 (0, 0)), (b, .cells (rws SX.c st.l ++ rest).toArray 44 (0, 0))] w' →
        ∃ y' : FwY sb pool st.rs, Ending.returned e = .returned e ∧ Fr (((sb, .cells #[.slice (some ⟨b, 0, none⟩) st.l.length vc] 76 (0, 0)) :: [(b, Obj.cells (rws SX.c st.l ++ rest).toArray 44 (0, 0))] : Hp).map (·.1)) w w' ∧ Has y'.1.L w' ∧ (∀ p ∈ y'.1.L, w.heap.size ≤ p.1 ∨ p.1 ∈ ((sb, .cells #[.slice (some ⟨b, 0, none⟩) st.l.length vc] 76 (0, 0)) :: [(b, Obj.cells (rws SX.c st.l ++ rest).toArray 44 (0, 0))] : Hp).map (·.1)) ∧ (y'.1.L.map (·.1)).Nodup :=
      fun e w' hm => fw_of (Lr := [(b3, .cells (fwdC i acct [o0, o1, o2, o3, o4, o5, o6, o7] amt).toArray 37 (0, 0))]) st rfl hm (by rw [hcells, hbb]; exact (perm_of fun f => by (simp only [List.map_append, List.map_cons, List.map_nil, List.sum_append, List.sum_cons, List.sum_nil] <;> omega)))
    refine z_ ?_
    (repeat refine RC.seq ?_); refine RC.drawS mixed (N := 8) rfl ?_
    refine dt 0 ?_
    refine dt 1 ?_
    refine dt 2 ?_
    refine dt 3 ?_
    refine dt 4 ?_
    refine dt 5 ?_
    refine DR.t 6 rfl (vix i hi ⟨b, i * 42, none⟩) ?_
    refine dt 7 ?_
    refine DR.done (by kernel_rfl) (RQ.next ?_)
    have hceC : (SX.c s)[9]? = some (.bool s.r.ce) := rfl
    cases hce : s.r.ce with
    | true =>
      rw [fwdR_ce hxr hce]
      have hc9 : (SX.c s)[9]? = some (.bool true) := by rw [← hce]; exact hceC
      refine z_ ?_
      refine Run.a (vl (.bool true) (hv := by exact rd_row SX.len hx hc9)) ?_
      refine z_ ?_
      exact RQ.ret1 rfl (Res.tmp rfl) (hend _)
    | false =>
      have hc9 : (SX.c s)[9]? = some (.bool false) := by rw [← hce]; exact hceC
      cases hf : fits s.r amt with
      | false =>
        have nf := not_fits hf
        rw [fwdR_bad hxr hce hf]
        by_cases c1 : amt < 1
        · refine z_ ?_
          refine Run.a (vl (.bool false) (hv := by exact rd_row SX.len hx hc9)) ?_
          refine z_ ?_
          exact RQ.ret1 rfl (Res.tmp rfl) (hend _)
        by_cases c2 : 1125899906842624 < amt
        · refine z_ ?_
          refine Run.a (vl (.bool false) (hv := by exact rd_row SX.len hx hc9)) ?_
          refine z_ ?_
          refine Run.op1 (OpTo.cv Try.func36 (fun w' _ => mMay_calls amt w')) (fun _ => ?_)
          refine z_ ?_
          exact RQ.ret1 rfl (Res.tmp rfl) (hend _)
        refine z_ ?_
        refine Run.a (vl (.bool false) (hv := by exact rd_row SX.len hx hc9)) ?_
        refine z_ ?_
        refine Run.op1 (OpTo.cv Try.func36 (fun w' _ => mMay_calls amt w')) (fun _ => ?_)
        refine z_ ?_
        refine Run.a (vl (.int .i64 s.r.bal) (hv := by exact rd_row SX.len hx rfl)) ?_
        by_cases c3 : 1125899906842624 - amt < s.r.bal
        · refine z_ ?_
          exact RQ.ret1 rfl (Res.tmp rfl) (hend _)
        refine z_ ?_
        refine Run.a (vl (.int .i64 s.r.fwd) (hv := by exact rd_row SX.len hx rfl)) ?_
        refine z_ ?_
        exact RQ.ret1 rfl (Res.tmp rfl) (hend _)
      | true =>
        have nf := is_fits hf
        rw [fwdR_ok hxr hce hf]
        refine z_ ?_
        refine Run.a (vl (.bool false) (hv := by exact rd_row SX.len hx hc9)) ?_
        refine z_ ?_
        refine Run.op1 (OpTo.cv Try.func36 (fun w' _ => mMay_calls amt w')) (fun _ => ?_)
        refine z_ ?_
        refine Run.a (vl (.int .i64 s.r.bal) (hv := by exact rd_row SX.len hx rfl)) ?_
        refine z_ ?_
        refine Run.a (vl (.int .i64 s.r.fwd) (hv := by exact rd_row SX.len hx rfl)) ?_
        refine z_ ?_
        obtain ⟨x1, hx1⟩ : ∃ x : SX, x = ⟨{ s.r with bal := s.r.bal + amt }, s.kv, s.uv, s.hk, s.hu⟩ := ⟨_, rfl⟩
        obtain ⟨x2, hx2⟩ : ∃ x : SX, x = ⟨s.r.plus amt, s.kv, s.uv, s.hk, s.hu⟩ := ⟨_, rfl⟩
        have hxx : (st.l.set i x1)[i]? = some x1 := by rw [List.getElem?_set_self hi]
        (repeat refine RC.seq ?_); refine RC.drawS mixed (N := 10) rfl ?_
        refine dt 0 ?_
        refine dt 1 ?_
        refine dt 2 ?_
        refine DR.t 3 rfl (vl (.int .i64 s.r.bal) (hv := by exact rd_row SX.len hx rfl)) ?_
        refine dt 4 ?_
        refine dt 5 ?_
        refine dt 6 ?_
        refine dt 7 ?_
        refine dt 8 ?_
        refine DR.c 9 (DOp.op1 rfl (opk SX.len hx x1 5 (.int .i64 (s.r.bal + amt)) (by decide) (by rw [hx1]; rfl) rfl rfl) (fun _ => ?_))
        refine DR.done (by kernel_rfl) (RQ.next ?_)
        refine z_ ?_
        (repeat refine RC.seq ?_); refine RC.drawS mixed (N := 10) rfl ?_
        refine dt 0 ?_
        refine dt 1 ?_
        refine dt 2 ?_
        refine DR.t 3 rfl (vl (.int .i64 s.r.fwd) (hv := by exact rd_row SX.len hxx (by rw [hx1]; rfl))) ?_
        refine dt 4 ?_
        refine dt 5 ?_
        refine dt 6 ?_
        refine dt 7 ?_
        refine dt 8 ?_
        refine DR.c 9 (DOp.op1 rfl (opk SX.len hxx x2 6 (.int .i64 (s.r.fwd + amt)) (by decide) (by rw [hx1, hx2]; rfl) rfl rfl) (fun _ => ?_))
        rw [List.set_set]
        refine DR.done (by kernel_rfl) (RQ.next ?_)
        refine z_ ?_
        have hrs : (st.l.set i x2).map SX.r = st.rs.set i (s.r.plus amt) := by rw [List.map_set, hx2]; rfl
        exact RQ.ret1 rfl (Res.tmp rfl) fun w' hm => fw_of (Lr := [(b3, .cells (fwdC i acct [o0, o1, o2, o3, o4, o5, o6, o7] amt).toArray 37 (0, 0))]) (stPut st (b := b) (cap := vc) (rest := rest) (pool' := pool) x2 hx hv2 hbb h4 h2 h3 (by rw [hx2]; exact st.hk s (List.mem_of_getElem? hx)) (fun w hw => by rw [hx2]; exact st.kn w hw s (List.mem_of_getElem? hx)) (fun _ h => h)) hrs hm (by unfold StO.L stPut; exact (perm_of fun f => by (simp only [List.map_append, List.map_cons, List.map_nil, List.sum_append, List.sum_cons, List.sum_nil] <;> omega)))
  · rw [fwdR_no (by rw [hlr]; exact hin)]
    refine z_ ?_
    exact RQ.ret1 rfl (Res.tmp rfl) fun w' hm => fw_of (Lr := [(b3, .cells (fwdC side acct o amt).toArray 37 (0, 0))]) st rfl hm (by rw [hcells]; exact (perm_of fun f => by (simp only [List.map_append, List.map_cons, List.map_nil, List.sum_append, List.sum_cons, List.sum_nil] <;> omega)))

abbrev StY (sb : Nat) (pool : Hp) (rs : List Rc) := {y : (np : Hp) × PSt sb (np ++ pool) // y.2.rs = rs}

set_option maxRecDepth 10000 in set_option maxHeartbeats 4000000 in
theorem Set_calls {sb : Nat} {pool : Hp} (st : PSt sb pool) {i : Nat} {s : SX} (hx : st.l[i]? = some s) (x : SX) (hkl : x.r.keys.length ≤ 1000000) (hul : x.r.used.length ≤ 1000000) {ap : Hp} (hk : ∀ w, Has ap w → x.ok w) (w : World)
    (hw : Has (st.L ++ ap) w) (hnd : ((st.L ++ ap).map (·.1)).Nodup) :
    Turns Try.prog 17 [.pointer (some ⟨sb, 0, none⟩), .int .i64 (i : Int), .agg x.c.toArray] w (st.L ++ ap)
      (Y := CrY sb pool (st.rs.set i x.r)) (fun _ => .bool true) (fun y => y.1.2.L ++ (y.1.1 ++ ap)) := by
  have hi := (List.getElem?_eq_some_iff.1 hx).1
  obtain ⟨b, cap, rest, hv2, hbb, h1, h2, h3, h4⟩ := st.own.pos (by omega)
  have hI := fun w' hs' => in_calls sb st.l.length cap (some ⟨b, 0, none⟩) (by have := st.h8; omega) (i : Int) w' hs'
  rw [show decide (0 ≤ (i : Int) ∧ (i : Int) < (st.l.length : Int)) = true from decide_eq_true (by omega)] at hI
  have hcells : st.L ++ ap = (sb, .cells #[.slice (some ⟨b, 0, none⟩) st.l.length cap] 76 (0, 0)) :: (b, .cells (rws SX.c st.l ++ rest).toArray 44 (0, 0)) :: ap := by unfold StO.L; rw [hv2, hbb]; rfl
  rw [hcells] at hw hnd ⊢
  have hcop := fun w' h1 => copied_calls x hkl hul w' h1
  refine enter Try.func17 rfl (Mem.init (S0 := (_ :: _ :: ap).map (·.1)) hw (fun p hp => List.mem_map_of_mem hp) hnd) rfl ?_
  refine z_ ?_
  refine Run.nw nbx ?_
  intro b5
  refine z_ ?_
  refine Run.op1 (OpTo.cv Try.func35 (fun w' hm => hI w' (hm.has _ m1))) (fun _ => ?_)
  refine z_ ?_
  (repeat refine RC.seq ?_); refine RC.draw ([(b5, .cells x.c.toArray 44 (0, 0)), (sb, .cells #[.slice (some ⟨b, 0, none⟩) st.l.length cap] 76 (0, 0))]) mixed (N := 9) rfl ?_
  refine dt 0 ?_
  refine dt 1 ?_
  refine dt 2 ?_
  refine dt 3 ?_
  refine dt 4 ?_
  refine DR.t 5 rfl (vla (hv := by exact x.len)) ?_
  refine DR.c 6 (DOp.op1 rfl (OpTo.callD Try.func32 (fun w' hm => hcop w' (hk w' fun p hp => hm.has p (List.mem_cons_of_mem _ (List.mem_cons_of_mem _ (List.mem_cons_of_mem _ hp)))))) ?_)
  rintro ⟨⟨s2, bl⟩, hr2, hk2⟩
  dsimp only at hr2 hk2 ⊢
  refine DR.t 7 rfl (vix i hi ⟨b, i * 42, none⟩) ?_
  refine DR.c 8 (DOp.op1 rfl (ost (L' := bl ++ [(b5, .cells x.c.toArray 44 (0, 0)), (sb, .cells #[.slice (some ⟨b, 0, none⟩) st.l.length cap] 76 (0, 0))] ++ ap) (arr := (rws SX.c st.l ++ rest).toArray) (e := 44) (b := b) (off := i * 42) (v := .agg s2.c.toArray) (ti := ti44) (rws SX.c (st.l.set i s2) ++ rest).toArray (wr_row SX.len s2 hx) (by rw [List.size_toArray, h4]; show i * 42 + 42 ≤ cap * 42; have : (i + 1) * 42 ≤ cap * 42 := Nat.mul_le_mul_right _ (by omega); omega) s2.one (hL := (perm_of fun f => by (simp only [List.map_append, List.map_cons, List.map_nil, List.sum_append, List.sum_cons, List.sum_nil] <;> omega))) (hs := s2.len)) (fun _ => ?_))
  refine DR.done (by kernel_rfl) (RQ.next ?_)
  refine z_ ?_
  refine RQ.ret1 rfl (Res.tmp rfl) fun w' hm => ?_
  have hrs : (st.l.set i s2).map SX.r = st.rs.set i x.r := by rw [List.map_set, hr2]; rfl
  exact cr_of (sb := sb) (pool := pool) (ap := ap) (Lr := [(b5, .cells x.c.toArray 44 (0, 0))]) bl (stPut st (b := b) (cap := cap) (rest := rest) (pool' := bl ++ pool) s2 hx hv2 hbb h4 h2 h3 (by rw [hr2]; exact ⟨hkl, hul⟩) (fun w hw => hk2 w hw.left) (fun _ h => List.mem_append_right _ h)) hrs hm (by unfold StO.L stPut; exact (perm_of fun f => by (simp only [List.map_append, List.map_cons, List.map_nil, List.sum_append, List.sum_cons, List.sum_nil] <;> omega)))

theorem Set_bad {sb : Nat} (v : Value) {l : List SX} (hll : l.length ≤ 8) (w : World) (hst : StW 76 w sb v l) (z : Int) (hz : ¬ (0 ≤ z ∧ z < l.length)) (x : SX) :
    Gives Try.prog 17 [.pointer (some ⟨sb, 0, none⟩), .int .i64 z, .agg x.c.toArray] (.bool false) w := by
  refine enter Try.func17 rfl (Mem.nil w []) rfl ?_
  obtain ⟨hs1, hs2, hs3⟩ := hst
  obtain ⟨a, c, rfl, hc⟩ := hs2.shape
  have hI := fun w' hs' => in_calls sb l.length c a (by omega) z w' hs'
  rw [show decide (0 ≤ z ∧ z < (l.length : Int)) = false from decide_eq_false hz] at hI
  refine z_ ?_
  refine Run.nw nbx ?_
  intro b5
  refine z_ ?_
  refine Run.op1 (OpTo.cv Try.func35 (fun w' hm => hI w' (hm.old hs1))) (fun _ => ?_)
  refine z_ ?_
  exact RQ.ret1 rfl (Res.tmp rfl) fun w' hm => ⟨rfl, hm.fr⟩
end Go.Proofs.Ytnhnihkpacibgaa
