/- registry's law: RegistryForwards. -/
import Derived.Test.YtnhnihkpacibgaaRgM
import Derived.Test.YtnhnihkpacibgaaVcS
set_option linter.unusedSimpArgs false
set_option linter.unusedVariables false
namespace Go.Sha
/-- A forward. -/
structure FwD where
  s : Int
  a : Int
  o : List Nat
  m : Int
  h8 : o.length = 8
  hs : -9223372036854775808 ≤ s ∧ s ≤ 9223372036854775807
  hm : -9223372036854775808 ≤ m ∧ m ≤ 9223372036854775807
def FwD.c (f : FwD) : List Go.Value := fwdC f.s f.a f.o f.m
theorem FwD.len (f : FwD) : f.c.length = 11 := by
  unfold FwD.c fwdC
  rw [List.length_cons, List.length_cons, List.length_append, u8s_len, f.h8]; rfl
theorem FwD.one (f : FwD) : ∀ u ∈ f.c, u.oneCell' = true := by
  intro u hu
  unfold FwD.c fwdC at hu
  simp only [List.mem_cons, List.mem_append, List.not_mem_nil, or_false] at hu
  rcases hu with rfl | rfl | hu | rfl
  · rfl
  · rfl
  · exact u8s_one _ u hu
  · rfl
/-- The record of a side to which x went over. -/
def rcF (j : Nat) (x : Int) : Rc := ⟨4, 2, 1, j, x, x, false, 0, certs 2, []⟩
def mkR (S : List Int) : List Rc := S.mapIdx rcF
theorem mkR_len (S : List Int) : (mkR S).length = S.length := by simp [mkR]
theorem mkR_at {S : List Int} {j : Nat} {x : Int} (h : S[j]? = some x) : (mkR S)[j]? = some (rcF j x) := by unfold mkR; rw [List.getElem?_mapIdx, h]; rfl
theorem mkR_app (S : List Int) (x : Int) : mkR (S ++ [x]) = mkR S ++ [rcF S.length x] := by unfold mkR; rw [List.mapIdx_append]; simp
theorem mkR_set {S : List Int} {j : Nat} (y : Int) : (mkR S).set j (rcF j y) = mkR (S.set j y) := by
  apply List.ext_getElem?
  intro i
  unfold mkR
  rw [List.getElem?_set, List.getElem?_mapIdx, List.getElem?_mapIdx, List.getElem?_set, List.length_mapIdx]
  by_cases h : j = i
  · subst h
    rw [if_pos rfl, if_pos rfl]
    split <;> rfl
  · rw [if_neg h, if_neg h]
theorem totR_mkR (S : List Int) : totR (mkR S) = S.sum := by
  unfold totR
  congr 1
  apply List.ext_getElem?
  intro i
  unfold mkR
  rw [List.getElem?_map, List.getElem?_mapIdx]
  cases S[i]? <;> rfl
theorem mkR_mem {S : List Int} {r : Rc} (h : r ∈ mkR S) : ∃ x ∈ S, r.bal = x ∧ r.fwd = x ∧ r.keys = certs 2 ∧ r.used = [] := by
  obtain ⟨i, hi, rfl⟩ := List.mem_iff_getElem.1 h
  have hi' : i < S.length := by rw [mkR_len] at hi; exact hi
  refine ⟨S[i], List.getElem_mem hi', ?_⟩
  simp [mkR, rcF]
theorem fits_of {r : Rc} {a : Int} (h1 : 1 ≤ a) (h2 : a ≤ 1125899906842624) (h3 : r.bal ≤ 1125899906842624 - a) (h4 : r.fwd ≤ 1125899906842624 - a) : fits r a = true := by
  unfold fits; rw [decide_eq_true ⟨h1, h2⟩, decide_eq_true h3, decide_eq_true h4]; rfl
theorem fits_no {r : Rc} {a : Int} (h1 : ¬ 1 ≤ a) : fits r a = false := by
  unfold fits; rw [decide_eq_false (fun h => h1 h.1)]; rfl
theorem rcF_plus (j : Nat) (x a : Int) : (rcF j x).plus a = rcF j (x + a) := rfl
end Go.Sha
namespace Go.Proofs.Ytnhnihkpacibgaa
attribute [local irreducible] Go.Vc.Run Go.Vc.RC Go.Vc.RQ Go.Vc.DR Go.Vc.DOp
open Go Go.Vc Go.Sha

theorem stAt {tS tR : TypeId} {sb : Nat} {pool : Hp} {st : StO tS tR sb pool} {rs : List Rc} (h : st.rs = rs) {j : Nat} {r : Rc} (hr : rs[j]? = some r) : ∃ s, st.l[j]? = some s ∧ s.r = r := by
  rw [← h] at hr
  unfold StO.rs at hr
  rw [List.getElem?_map] at hr
  cases hs : st.l[j]? with
  | none => rw [hs] at hr; cases hr
  | some s => rw [hs] at hr; exact ⟨s, rfl, Option.some.inj hr⟩

set_option maxRecDepth 10000 in set_option maxHeartbeats 4000000 in
theorem RegistryForwards_calls (l : List FwD) (hll : l.length ≤ 9223372036854775807) (many : Nat) (hmany : many < 256) (vl0 : Value) (w : World) (hs : SrcW w 11 vl0 l.length (rws FwD.c l)) :
    Gives Try.prog 3 [vl0, .int .u8 many] (.bool true) w := by
  refine enter Try.func3 rfl (Mem.nil w []) rfl ?_
  obtain ⟨K, hK⟩ : ∃ K : Nat, K = 1 + many % 8 := ⟨_, rfl⟩
  obtain ⟨la, lc, rfl, hlc⟩ := hs.shape
  refine z_ ?_
  refine Run.op1 (OpTo.cv Try.func9 (fun w' _ => rg_awake_calls w')) (fun _ => ?_)
  by_cases h60 : 60 < l.length
  · refine z_ ?_
    exact RQ.ret1 rfl (Res.tmp rfl) fun w' hm => ⟨rfl, hm.fr⟩
  refine z_ ?_
  refine Run.op1 (OpTo.callNew Try.func10 rfl rfl rfl rfl rfl rfl (fun w' _ => RNew_calls w')) ?_
  intro b
  refine z_ ?_
  refine RC.up K (D := (pool : Hp) × PSt b pool) (fun i d => d.2.rs = mkR (List.replicate i 0)) (fun i _ => [(7, .int .i64 i), (6, .int .i64 K), (5, .pointer (some ⟨b, 0, none⟩)), (0, .slice la l.length lc)])
    (fun _ d => d.2.L ++ d.1) 0 ⟨[], stNil _ _ b []⟩ (Nat.zero_le _) rfl ⟨rfl, by rw [hK]; rfl, rfl, rfl, trivial⟩ (List.Sublist.refl _) ?_
  rintro i ⟨pool, st⟩ hi hrs
  dsimp only at hrs ⊢
  refine z_ ?_
  (repeat refine RC.seq ?_); refine RC.wh rfl (fun h => RQ.next ?_) (fun h => ?_)
  · have hi' : i < K := by have := of_decide_eq_true h; omega
    clear h
    refine z_ ?_
    refine Run.op1 (OpTo.callMkP Try.func12 rfl rfl rfl rfl rfl rfl (fun w' _ => Made_calls 2 1 w')) ?_
    rintro ⟨⟨kv, kb⟩, hown⟩
    dsimp only at hown ⊢
    have hC := fun w' h1 h2 => Create_calls st (ln := 4) (wd := 2) (nd := 1) (ks := certs 2) (certs_HL 2) (by rw [certs_len]; decide) (kv := kv) hown.one (ap := kb) (fun w hw => hown.srcW hw) (i : Int) w' h1 h2
    have hlen : st.rs.length = i := by rw [hrs, mkR_len, List.length_replicate]
    have e1 : createR st.rs (mayP 4 2 1 (certs 2)) (rcNew 4 2 1 (certs 2) i) = (st.rs ++ [rcNew 4 2 1 (certs 2) i], (i : Int), 0) := by
      rw [may_certs (by decide) (by decide) (by decide) (by decide), createR_ok _ (by omega), hlen]
    simp only [e1] at hC
    have hp1 : (kb ++ (st.L ++ pool)).Perm ((st.L ++ kb) ++ pool) := (perm_of fun f => by (simp only [List.map_append, List.map_cons, List.map_nil, List.sum_append, List.sum_cons, List.sum_nil] <;> omega))
    refine z_ ?_
    refine Run.op1 (OpTo.callT Try.func11 hp1 (fun w' hm => hC w' (fun p hp => (hm.perm hp1).has p (List.mem_append_left _ hp)) (by have := (hm.perm hp1).nd; rw [List.map_append] at this; exact (List.nodup_append.1 this).1))) ?_
    rintro ⟨⟨np, st1⟩, hrs1⟩
    dsimp only at hrs1 ⊢
    rw [e1] at hrs1
    refine z_ ?_
    refine RQ.upQ (i + 1) ⟨np ++ pool, st1⟩ (Nat.lt_succ_self _) hi' ?_ ⟨rfl, rfl, rfl, rfl, trivial⟩ (L1 := (st1.L ++ (np ++ pool)) ++ kb) (perm_of fun f => by (simp only [List.map_append, List.map_cons, List.map_nil, List.sum_append, List.sum_cons, List.sum_nil] <;> omega)) (List.sublist_append_left _ _)
    show st1.rs = _
    rw [hrs1, hrs, List.replicate_succ', mkR_app, List.length_replicate]
    rfl
  have hi' : K = i := by have := of_decide_eq_false h; omega
  clear h
  subst hi'
  (repeat refine RQ.thenExit ?_); refine RQ.blockHere ?_
  have hK8 : K ≤ 8 := by omega
  refine z_ ?_
  refine Run.nw (nmk (m := K) (.int .i64 0) (hb := by show 8 * K ≤ _; omega)) ?_
  intro b51
  rw [← i64L_rep]
  refine z_ ?_
  refine RC.up l.length (D := PSt b pool × List Int) (fun i d => d.1.rs = mkR d.2 ∧ d.2.length = K ∧ ∀ x ∈ d.2, 0 ≤ x ∧ x ≤ i * 1099511627776)
    (fun i _ => [(11, .int .i64 i), (10, .slice (some ⟨b51, 0, none⟩) K K), (6, .int .i64 K), (5, .pointer (some ⟨b, 0, none⟩)), (0, .slice la l.length lc)])
    (fun _ d => (b51, .cells (i64L d.2).toArray 3 (0, 0)) :: (d.1.L ++ pool)) 0 (st, List.replicate K 0) (Nat.zero_le _) ⟨hrs, List.length_replicate .., fun x hx => by rw [List.eq_of_mem_replicate hx]; omega⟩ ⟨rfl, rfl, by rw [hK]; rfl, rfl, rfl, trivial⟩ (List.Sublist.refl _) ?_
  clear hrs st
  rintro i ⟨st, S⟩ hi ⟨hrs, hSl, hSb⟩
  dsimp only at hrs hSl hSb ⊢
  have hnn : ∀ r ∈ st.rs, 0 ≤ r.bal ∧ 0 ≤ r.fwd := fun r hr => by
    rw [hrs] at hr
    obtain ⟨x, hx, e1, e2, -, -⟩ := mkR_mem hr
    rw [e1, e2]; exact ⟨(hSb x hx).1, (hSb x hx).1⟩
  refine z_ ?_
  (repeat refine RC.seq ?_); refine RC.wh rfl (fun h => RQ.next ?_) (fun h => ?_)
  · have hi' : i < l.length := by have := of_decide_eq_true h; omega
    clear h
    obtain ⟨f, hx⟩ : ∃ f, l[i]? = some f := ⟨_, List.getElem?_eq_getElem hi'⟩
    obtain ⟨ad, c', hv', hc', hcl, hr⟩ := hs.pos (by omega)
    cases hv'
    have hload : ∀ j u, f.c[j]? = some u → w.cell? ((ad.add (i * 11)).add j) = some u := fun j u hj => by
      rw [add_add]; exact hr _ u (rws_at FwD.len hx j u hj)
    have hfl := f.len
    have hf1 := f.one
    obtain ⟨s, a, o, m, ho8, hsb, hmb⟩ := f
    obtain ⟨o0, o1, o2, o3, o4, o5, o6, o7, rfl⟩ := len8 ho8
    change ∀ j u, (fwdC s a [o0, o1, o2, o3, o4, o5, o6, o7] m)[j]? = some u → _ at hload
    change (fwdC s a [o0, o1, o2, o3, o4, o5, o6, o7] m).length = 11 at hfl
    change ∀ u ∈ fwdC s a [o0, o1, o2, o3, o4, o5, o6, o7] m, _ at hf1
    refine z_ ?_
    refine Run.a (vix i hi' (ad.add (i * 11))) ?_
    refine Run.a (vloA hload hfl) ?_
    refine Run.nw nal ?_
    intro b12
    refine Run.op1 (osa (fwdC s a [o0, o1, o2, o3, o4, o5, o6, o7] m).toArray hf1 (hs := hfl)) (fun _ => ?_)
    by_cases hm : 1099511627776 < m
    · refine z_ ?_
      exact RQ.ret1 rfl (Res.tmp rfl) fun w' hm => ⟨rfl, hm.fr⟩
    have hF := fun w' h1 h2 => Forward_calls st hnn s a m hsb [o0, o1, o2, o3, o4, o5, o6, o7] rfl w' h1 h2
    have hp2 : ((b12, Obj.cells (fwdC s a [o0, o1, o2, o3, o4, o5, o6, o7] m).toArray 37 (0, 0)) :: (b51, .cells (i64L S).toArray 3 (0, 0)) :: (st.L ++ pool)).Perm (st.L ++ ((b12, Obj.cells (fwdC s a [o0, o1, o2, o3, o4, o5, o6, o7] m).toArray 37 (0, 0)) :: (b51, .cells (i64L S).toArray 3 (0, 0)) :: pool)) := (perm_of fun f => by (simp only [List.map_append, List.map_cons, List.map_nil, List.sum_append, List.sum_cons, List.sum_nil] <;> omega))
    by_cases hin : 0 ≤ s ∧ s < K
    · obtain ⟨j, rfl⟩ := Int.eq_ofNat_of_zero_le hin.1
      have hj : j < S.length := by omega
      have hin' : j < K := by omega
      obtain ⟨x, hxj⟩ : ∃ x, S[j]? = some x := ⟨_, List.getElem?_eq_getElem hj⟩
      have hxb := hSb x (List.mem_of_getElem? hxj)
      have hrj : st.rs[j]? = some (rcF j x) := by rw [hrs]; exact mkR_at hxj
      by_cases h1 : 1 ≤ m
      · have e2 : fwdR st.rs j m = (mkR (S.set j (x + m)), 0) := by
          rw [fwdR_ok hrj rfl (fits_of h1 (by omega) (by show x ≤ _; omega) (by show x ≤ _; omega)), rcF_plus, hrs, mkR_set]
        simp only [e2] at hF
        refine z_ ?_
        refine Run.op1 (OpTo.callT Try.func13 hp2 (fun w' hm => hF w' (fun p hp => (hm.perm hp2).has p (List.mem_append_left _ hp)) (by have := (hm.perm hp2).nd; rw [List.map_append] at this; exact (List.nodup_append.1 this).1))) ?_
        rintro ⟨st2, hrs2⟩
        dsimp only at hrs2 ⊢
        rw [e2] at hrs2
        refine z_ ?_
        refine Run.a (Val.eq (Val.neBool (b := true) tabOk rfl rfl rfl rfl (show _ = some (Value.bool true) from congrArg (fun q => some (Value.bool q)) (decide_eq_true (show m ≥ 1 by omega)))) (show _ = Value.bool false from rfl)) ?_
        refine z_ ?_
        (repeat refine RC.seq ?_); refine RC.draw ([(b12, Obj.cells (fwdC j a [o0, o1, o2, o3, o4, o5, o6, o7] m).toArray 37 (0, 0)), (b51, .cells (i64L S).toArray 3 (0, 0))]) mixed (N := 13) rfl ?_
        refine dt 0 ?_
        refine dt 1 ?_
        refine dt 2 ?_
        refine dt 3 ?_
        refine dt 4 ?_
        refine dt 5 ?_
        refine DR.t 6 rfl (vi1 j hin') ?_
        refine DR.t 7 rfl (vl (.int .i64 x) (hv := by rw [Nat.zero_add]; exact i64L_at hxj)) ?_
        refine dt 8 ?_
        refine dt 9 ?_
        refine dt 10 ?_
        refine DR.t 11 rfl (vi1 j hin') ?_
        refine DR.c 12 (DOp.op1 rfl (oi1 (L' := st2.L ++ ([(b12, Obj.cells (fwdC j a [o0, o1, o2, o3, o4, o5, o6, o7] m).toArray 37 (0, 0))] ++ pool)) (b := b51) (e := 3) (S := S) j (x + m) hj (hL := (perm_of fun f => by (simp only [List.map_append, List.map_cons, List.map_nil, List.sum_append, List.sum_cons, List.sum_nil] <;> omega)))) (fun _ => ?_))
        refine DR.done (by kernel_rfl) ?_
        refine z_ ?_
        refine RQ.upQ (i + 1) (st2, S.set j (x + m)) (Nat.lt_succ_self _) hi' ⟨hrs2, by rw [List.length_set]; exact hSl, fun y hy => ?_⟩ ⟨rfl, rfl, rfl, rfl, rfl, trivial⟩ (L1 := ((b51, .cells (i64L (S.set j (x + m))).toArray 3 (0, 0)) :: (st2.L ++ pool)) ++ [(b12, Obj.cells (fwdC j a [o0, o1, o2, o3, o4, o5, o6, o7] m).toArray 37 (0, 0))]) (perm_of fun f => by (simp only [List.map_append, List.map_cons, List.map_nil, List.sum_append, List.sum_cons, List.sum_nil] <;> omega)) (List.sublist_append_left _ _)
        rcases List.mem_or_eq_of_mem_set hy with hy | rfl
        · exact ⟨(hSb y hy).1, by have := (hSb y hy).2; omega⟩
        · omega
      · have e2 : fwdR st.rs j m = (st.rs, 5) := fwdR_bad hrj rfl (fits_no h1)
        simp only [e2] at hF
        refine z_ ?_
        refine Run.op1 (OpTo.callT Try.func13 hp2 (fun w' hm => hF w' (fun p hp => (hm.perm hp2).has p (List.mem_append_left _ hp)) (by have := (hm.perm hp2).nd; rw [List.map_append] at this; exact (List.nodup_append.1 this).1))) ?_
        rintro ⟨st2, hrs2⟩
        dsimp only at hrs2 ⊢
        rw [e2] at hrs2
        refine z_ ?_
        refine Run.a (Val.eq (Val.neBool (b := false) tabOk rfl rfl rfl rfl (show _ = some (Value.bool false) from congrArg (fun q => some (Value.bool q)) (decide_eq_false (show ¬ m ≥ 1 by omega)))) (show _ = Value.bool false from rfl)) ?_
        refine z_ ?_
        exact RQ.upQ (i + 1) (st2, S) (Nat.lt_succ_self _) hi' ⟨hrs2.trans hrs, hSl, fun y hy => ⟨(hSb y hy).1, by have := (hSb y hy).2; omega⟩⟩ ⟨rfl, rfl, rfl, rfl, rfl, trivial⟩ (L1 := ((b51, .cells (i64L S).toArray 3 (0, 0)) :: (st2.L ++ pool)) ++ [(b12, Obj.cells (fwdC j a [o0, o1, o2, o3, o4, o5, o6, o7] m).toArray 37 (0, 0))]) (perm_of fun f => by (simp only [List.map_append, List.map_cons, List.map_nil, List.sum_append, List.sum_cons, List.sum_nil] <;> omega)) (List.sublist_append_left _ _)
    · have e2 : fwdR st.rs s m = (st.rs, 8) := fwdR_no (by rw [hrs, mkR_len, hSl]; exact hin)
      simp only [e2] at hF
      by_cases hs0 : 0 ≤ s
      · refine z_ ?_
        refine Run.op1 (OpTo.callT Try.func13 hp2 (fun w' hm => hF w' (fun p hp => (hm.perm hp2).has p (List.mem_append_left _ hp)) (by have := (hm.perm hp2).nd; rw [List.map_append] at this; exact (List.nodup_append.1 this).1))) ?_
        rintro ⟨st2, hrs2⟩
        dsimp only at hrs2 ⊢
        rw [e2] at hrs2
        refine z_ ?_
        refine Run.a (Val.eq (Val.neBool (b := false) tabOk rfl rfl rfl rfl rfl) (show _ = Value.bool false from rfl)) ?_
        refine z_ ?_
        exact RQ.upQ (i + 1) (st2, S) (Nat.lt_succ_self _) hi' ⟨hrs2.trans hrs, hSl, fun y hy => ⟨(hSb y hy).1, by have := (hSb y hy).2; omega⟩⟩ ⟨rfl, rfl, rfl, rfl, rfl, trivial⟩ (L1 := ((b51, .cells (i64L S).toArray 3 (0, 0)) :: (st2.L ++ pool)) ++ [(b12, Obj.cells (fwdC s a [o0, o1, o2, o3, o4, o5, o6, o7] m).toArray 37 (0, 0))]) (perm_of fun f => by (simp only [List.map_append, List.map_cons, List.map_nil, List.sum_append, List.sum_cons, List.sum_nil] <;> omega)) (List.sublist_append_left _ _)
      · refine z_ ?_
        refine Run.op1 (OpTo.callT Try.func13 hp2 (fun w' hm => hF w' (fun p hp => (hm.perm hp2).has p (List.mem_append_left _ hp)) (by have := (hm.perm hp2).nd; rw [List.map_append] at this; exact (List.nodup_append.1 this).1))) ?_
        rintro ⟨st2, hrs2⟩
        dsimp only at hrs2 ⊢
        rw [e2] at hrs2
        refine z_ ?_
        refine Run.a (Val.eq (Val.neBool (b := false) tabOk rfl rfl rfl rfl rfl) (show _ = Value.bool false from rfl)) ?_
        refine z_ ?_
        exact RQ.upQ (i + 1) (st2, S) (Nat.lt_succ_self _) hi' ⟨hrs2.trans hrs, hSl, fun y hy => ⟨(hSb y hy).1, by have := (hSb y hy).2; omega⟩⟩ ⟨rfl, rfl, rfl, rfl, rfl, trivial⟩ (L1 := ((b51, .cells (i64L S).toArray 3 (0, 0)) :: (st2.L ++ pool)) ++ [(b12, Obj.cells (fwdC s a [o0, o1, o2, o3, o4, o5, o6, o7] m).toArray 37 (0, 0))]) (perm_of fun f => by (simp only [List.map_append, List.map_cons, List.map_nil, List.sum_append, List.sum_cons, List.sum_nil] <;> omega)) (List.sublist_append_left _ _)
  have hi' : i = l.length := by have := of_decide_eq_false h; omega
  clear h
  subst hi'
  have hlen : st.l.length = K := by
    have := congrArg List.length hrs
    rw [mkR_len, hSl] at this
    rw [← this]; exact (List.length_map _).symm
  have hsum : ∀ k, 0 ≤ (S.take k).sum ∧ (S.take k).sum ≤ 8 * 65970697666560 := fun k => by
    have h1 := sum_bound (B := 65970697666560) (by decide) (S := S.take k) (fun x hx => ⟨(hSb x (List.mem_of_mem_take hx)).1, by have := (hSb x (List.mem_of_mem_take hx)).2; omega⟩)
    have h2 : (S.take k).length ≤ 8 := by rw [List.length_take]; omega
    refine ⟨h1.1, Int.le_trans h1.2 ?_⟩
    omega
  have hS : ∀ {w' : World} {L1 : Hp}, Mem w [] (L1 ++ ((b51, .cells (i64L S).toArray 3 (0, 0)) :: (st.L ++ pool))) w' → StW 76 w' b st.v st.l := fun hm => st.w (fun p hp => hm.has p (List.mem_append_right _ (List.mem_cons_of_mem _ (List.mem_append_left _ hp)))) (fun p hp => hm.has p (List.mem_append_right _ (List.mem_cons_of_mem _ (List.mem_append_right _ hp))))
  (repeat refine RQ.thenExit ?_); refine RQ.blockHere ?_
  refine z_ ?_
  refine RC.up K (D := Unit) (fun _ _ => True) (fun i _ => [(16, .int .i64 i), (15, .int .i64 (S.take i).sum), (10, .slice (some ⟨b51, 0, none⟩) K K), (6, .int .i64 K), (5, .pointer (some ⟨b, 0, none⟩))])
    (fun _ _ => (b51, .cells (i64L S).toArray 3 (0, 0)) :: (st.L ++ pool)) 0 () (Nat.zero_le _) trivial ⟨rfl, rfl, rfl, rfl, rfl, trivial⟩ (List.Sublist.refl _) ?_
  intro i _ hi _
  refine z_ ?_
  (repeat refine RC.seq ?_); refine RC.wh rfl (fun h => RQ.next ?_) (fun h => ?_)
  · have hi' : i < K := by have := of_decide_eq_true h; omega
    clear h
    obtain ⟨x, hxi⟩ : ∃ x, S[i]? = some x := ⟨_, List.getElem?_eq_getElem (by omega)⟩
    obtain ⟨s, hsx, hsr⟩ := stAt hrs (mkR_at hxi)
    have hks := st.hk s (List.mem_of_getElem? hsx)
    have hx0 := hSb x (List.mem_of_getElem? hxi)
    have hnx : (S.take (i + 1)).sum = (S.take i).sum + x := by
      rw [List.take_add_one, hxi, List.sum_append]; simp
    have q1 := hsum i
    refine z_ ?_
    refine Run.op1 (OpTo.callD Try.func14 (fun w' hm => Side_calls st.h8 b st.v w' (hS (L1 := []) hm) hsx hks.1 hks.2)) ?_
    rintro ⟨⟨s2, bl⟩, hr2, hk2⟩
    dsimp only at hr2 hk2 ⊢
    have hl2 := s2.len
    refine z_ ?_
    refine Run.nw nal ?_
    intro b17
    refine Run.op1 (osa s2.c.toArray s2.one (hs := hl2)) (fun _ => ?_)
    have f1 : s2.r = rcF i x := hr2.trans hsr
    obtain ⟨r2, kv2, uv2, o1, o2⟩ := s2
    dsimp only at f1
    subst f1
    refine z_ ?_
    (repeat refine RC.seq ?_); refine RC.drawS mixed (N := 34) rfl ?_
    refine dt 0 ?_
    refine dt 1 ?_
    refine dt 2 ?_
    refine dt 3 ?_
    refine dt 4 ?_
    refine dt 5 ?_
    refine dt 6 ?_
    refine DR.t 7 rfl (vi1 i hi') ?_
    refine DR.t 8 rfl (vl (.int .i64 x) (hv := by rw [Nat.zero_add]; exact i64L_at hxi)) ?_
    refine dt 9 ?_
    refine dt 10 ?_
    refine dt 11 ?_
    refine dt 12 ?_
    refine dt 13 ?_
    refine dt 14 ?_
    refine dt 15 ?_
    refine DR.t 16 rfl (vi1 i hi') ?_
    refine DR.t 17 rfl (vl (.int .i64 x) (hv := by rw [Nat.zero_add]; exact i64L_at hxi)) ?_
    refine dt 18 ?_
    refine dt 19 ?_
    refine dt 20 ?_
    refine dt 21 ?_
    refine dt 22 ?_
    refine dt 23 ?_
    refine dt 24 ?_
    refine dt 25 ?_
    refine dt 26 ?_
    refine dt 27 ?_
    refine dt 28 ?_
    refine dt 29 ?_
    refine dt 30 ?_
    refine dt 31 ?_
    refine dt 32 ?_
    refine dt 33 ?_
    refine DR.done (by kernel_rfl) ?_
    refine z_ ?_
    refine Run.a (vi1 i hi') ?_
    refine Run.a (vl (.int .i64 x) (hv := by rw [Nat.zero_add]; exact i64L_at hxi)) ?_
    refine z_ ?_
    exact RQ.upQ (i + 1) () (Nat.lt_succ_self _) hi' trivial ⟨rfl, by rw [hnx]; rfl, rfl, rfl, rfl, trivial⟩ (L1 := ((b51, .cells (i64L S).toArray 3 (0, 0)) :: (st.L ++ pool)) ++ ((b17, .cells (SX.c ⟨rcF i x, kv2, uv2, o1, o2⟩).toArray 44 (0, 0)) :: bl)) (perm_of fun f => by (simp only [List.map_append, List.map_cons, List.map_nil, List.sum_append, List.sum_cons, List.sum_nil] <;> omega)) (List.sublist_append_left _ _)
  have hi' : K = i := by have := of_decide_eq_false h; omega
  clear h
  subst hi'
  rw [show S.take K = S from List.take_of_length_le (by omega)]
  have hsK := hsum K
  rw [show S.take K = S from List.take_of_length_le (by omega)] at hsK
  have e3 : totR (st.l.map SX.r) = S.sum := by
    show totR st.rs = _
    rw [hrs, totR_mkR]
  have hT := fun w' hs' => Total_calls st.h8 (by show ∀ r ∈ st.rs, _; exact fun r hr => (hnn r hr).1) (by rw [e3]; omega) b st.v w' hs'
  rw [e3] at hT
  obtain ⟨va, vc, hv, hvc⟩ := st.own.shape
  have hLn := fun w' hs' => RLen_calls b st.l.length vc va w' hs'
  rw [hlen] at hLn
  (repeat refine RQ.thenExit ?_); refine RQ.blockHere ?_
  refine z_ ?_
  refine Run.op1 (OpTo.cv Try.func15 (fun w' hm => hT w' (hS (L1 := []) hm))) (fun _ => ?_)
  refine z_ ?_
  refine Run.op1 (OpTo.cv Try.func16 (fun w' hm => hLn w' (by have := (hS (L1 := []) hm).1; rw [hv, hlen] at this; exact this))) (fun _ => ?_)
  refine z_ ?_
  exact RQ.ret1 rfl (Res.tmp rfl) fun w' hm => ⟨rfl, hm.fr⟩
end Go.Proofs.Ytnhnihkpacibgaa
