/- sparse: Len, Copy. -/
import Derived.Test.YtaabinhpagbajaaDoorSpF
set_option linter.unusedSimpArgs false
set_option linter.unusedVariables false
namespace Go.Proofs.YtaabinhpagbajaaDoor
attribute [local irreducible] Go.Vc.Run Go.Vc.RC Go.Vc.RQ Go.Vc.DR Go.Vc.DOp
open Go Go.Vc Go.Sha
/-- How many leaves. -/
def cnt0 (es : List MpE) : Nat := (es.filter fun x => x.k == 0).length
theorem cnt0_app (a : List MpE) (x : MpE) : cnt0 (a ++ [x]) = cnt0 a + if x.k = 0 then 1 else 0 := by
  unfold cnt0
  rw [List.filter_append, List.length_append]
  by_cases h : x.k = 0
  · simp [h]
  · simp [h]
theorem cnt0_all {vs es : List MpE} (h1 : (vs.map (·.born)).Nodup) (h2 : (es.map (·.born)).Nodup) (hs : ∀ x ∈ vs, x ∈ es) (ha : ∀ x ∈ es, (vs.map (·.born)).toArray.contains x.born = true) : cnt0 vs = cnt0 es := by
  have inj : ∀ {x y : MpE}, x ∈ es → y ∈ es → x.born = y.born → x = y := by
    intro x y hx hy e
    obtain ⟨a, ha, rfl⟩ := List.mem_iff_getElem.1 hx
    obtain ⟨b, hb, rfl⟩ := List.mem_iff_getElem.1 hy
    have := (List.getElem_inj (h₀ := by simpa using ha) (h₁ := by simpa using hb) h2).1 (by simpa using e)
    subst this
    rfl
  have nd1 : vs.Nodup := List.Pairwise.of_map (·.born) (fun a b h e => h (by rw [e])) h1
  have nd2 : es.Nodup := List.Pairwise.of_map (·.born) (fun a b h e => h (by rw [e])) h2
  have hp : vs.Perm es := by
    rw [List.perm_ext_iff_of_nodup nd1 nd2]
    intro x
    refine ⟨hs x, fun hx => ?_⟩
    have := ha x hx
    rw [List.contains_toArray, List.contains_iff_mem] at this
    obtain ⟨y, hy, e⟩ := List.mem_map.1 this
    rw [← inj (hs y hy) hx e]
    exact hy
  exact (hp.filter _).length_eq
set_option maxRecDepth 10000 in set_option maxHeartbeats 4000000 in
theorem TLen_calls {tb mb : Nat} (x : Tr tb mb) (w : World) (hw : Has x.L w) (hlen : x.es.length ≤ 1000000000) :
    Gives Tryd.prog 16 [.pointer (some ⟨tb, 0, none⟩)] (.int .i64 (cnt0 x.es : Nat)) w := by
  refine enter Tryd.func16 rfl (Mem.nil w []) rfl ?_
  have hc : w.cell? ⟨tb, 0, none⟩ = some (.map (some mb)) := by rw [cell_of_row w tb 0 _ _ _ (hw _ List.mem_cons_self)]; rfl
  have hmb : w.heap[mb]? = some (mpO x.es x.clock) := hw (mb, mpO x.es x.clock) m1
  refine z_ ?_
  refine Run.a (vlo hc) ?_
  refine Run.nw (New.range2 mapTy rfl rfl (fun w' hm => hm.old hmb)) ?_
  intro b11
  refine z_ ?_
  refine RC.up x.es.length (D := List MpE) (fun i d => d.length = i ∧ (d.map (·.born)).Nodup ∧ ∀ y ∈ d, y ∈ x.es) (fun i d => [(11, .pointer (some ⟨b11, 0, none⟩)), (3, .int .i64 (cnt0 d : Nat))]) (fun i d => [(b11, Obj.mapIter (some mb) x.clock (d.map (·.born)).toArray x.clock)]) 0 [] (Nat.zero_le _) ⟨rfl, List.nodup_nil, fun y hy => by cases hy⟩ ⟨rfl, rfl, trivial⟩ (List.Sublist.refl _) ?_
  rintro i d hi ⟨hdl, hdn, hds⟩
  have hcd : cnt0 d ≤ 1000000000 := by
    unfold cnt0
    have := List.length_filter_le (fun x : MpE => x.k == 0) d
    omega
  (repeat refine RC.seq ?_); refine RC.region ?_
  refine Run.op1 (OpTo.next2 (es := x.es) (mb := mb) (clock := x.clock) (seen := (d.map (·.born)).toArray) (L' := []) rfl rfl rfl rfl (List.Perm.refl _) (fun w' hm => hm.old hmb) x.ok.bn) ?_
  rintro ⟨y, hy⟩
  cases y with
  | none =>
    dsimp only at hy ⊢
    have he := cnt0_all hdn x.ok.bd hds hy
    rw [he]
    refine z_ ?_
    exact RQ.ret1 rfl (Res.tmp rfl) fun w' hm => ⟨rfl, hm.fr⟩
  | some y =>
    dsimp only at hy ⊢
    obtain ⟨hym, hys⟩ := hy
    have hnb : y.born ∉ d.map (·.born) := by
      intro h
      rw [List.contains_toArray] at hys
      rw [List.contains_iff_mem.2 h] at hys
      cases hys
    have hi' : i < x.es.length := by
      rcases Nat.lt_or_ge i x.es.length with h | h
      · exact h
      · exfalso
        have nd1 : d.Nodup := List.Pairwise.of_map (·.born) (fun a b h e => h (by rw [e])) hdn
        have nd3 : (d ++ [y]).Nodup := by
          rw [List.nodup_append]
          refine ⟨nd1, by simp, fun a ha b hb => ?_⟩
          rw [List.mem_singleton] at hb
          subst hb
          rintro rfl
          exact hnb (List.mem_map_of_mem ha)
        have hsub : (d ++ [y]).length ≤ x.es.length := List.Nodup.length_le_of_subset nd3 (fun a ha => by
          rcases List.mem_append.1 ha with ha | ha
          · exact hds a ha
          · rw [List.mem_singleton] at ha; subst ha; exact hym)
        rw [List.length_append, List.length_singleton] at hsub
        omega
    have hpush : (d.map (·.born)).toArray.push y.born = ((d ++ [y]).map (·.born)).toArray := by
      apply Array.ext'; simp
    refine z_ ?_
    refine Run.a (Val.entry2 (es := x.es) (mb := mb) (clock := x.clock) (seen := (d.map (·.born)).toArray) (y := y) rfl rfl m0 (fun w' hm => hm.old hmb) hym x.ok.bd) ?_
    refine z_ ?_
    refine Run.nw nal ?_
    intro b4
    refine z_ ?_
    refine Run.op1 (osa (arr := #[.int .i64 0, .int .i64 0]) #[.int .i64 y.k, .int .i64 y.i] (by simp [Value.oneCell'])) (fun _ => ?_)
    have hnd2 : ((d ++ [y]).map (·.born)).Nodup := by
      rw [List.map_append, List.nodup_append]
      refine ⟨hdn, by simp, fun a ha b hb => ?_⟩
      rw [List.map_cons, List.map_nil, List.mem_singleton] at hb
      subst hb
      rintro rfl
      exact hnb ha
    have hds2 : ∀ z ∈ d ++ [y], z ∈ x.es := fun z hz => by
      rcases List.mem_append.1 hz with hz | hz
      · exact hds z hz
      · rw [List.mem_singleton] at hz; subst hz; exact hym
    have hca := cnt0_app d y
    by_cases hy0 : y.k = 0
    · rw [if_pos hy0] at hca
      have hy0' : (y.k : Int) = 0 := by omega
      refine z_ ?_
      exact RQ.upS (i + 1) (d ++ [y]) (Nat.lt_succ_self _) hi' ⟨by rw [List.length_append, hdl]; rfl, hnd2, hds2⟩ ⟨rfl, congrArg (fun z => some (Value.int .i64 z)) (by omega), trivial⟩ (L1 := [(b11, Obj.mapIter (some mb) x.clock ((d ++ [y]).map (·.born)).toArray x.clock)] ++ [(b4, Obj.cells #[Value.int .i64 y.k, Value.int .i64 y.i] 59 (0, 0))]) (by rw [hpush]; exact (perm_of fun f => by (simp only [List.map_append, List.map_cons, List.map_nil, List.sum_append, List.sum_cons, List.sum_nil] <;> omega))) (List.sublist_append_left _ _)
    · rw [if_neg hy0] at hca
      have hy0' : (y.k : Int) ≠ 0 := by omega
      refine z_ ?_
      exact RQ.upS (i + 1) (d ++ [y]) (Nat.lt_succ_self _) hi' ⟨by rw [List.length_append, hdl]; rfl, hnd2, hds2⟩ ⟨rfl, congrArg (fun z => some (Value.int .i64 z)) (by omega), trivial⟩ (L1 := [(b11, Obj.mapIter (some mb) x.clock ((d ++ [y]).map (·.born)).toArray x.clock)] ++ [(b4, Obj.cells #[Value.int .i64 y.k, Value.int .i64 y.i] 59 (0, 0))]) (by rw [hpush]; exact (perm_of fun f => by (simp only [List.map_append, List.map_cons, List.map_nil, List.sum_append, List.sum_cons, List.sum_nil] <;> omega))) (List.sublist_append_left _ _)
set_option maxRecDepth 10000 in set_option maxHeartbeats 4000000 in
theorem MClone_calls {mb clock : Nat} {es : List MpE} (w : World) (hmb : w.heap[mb]? = some (mpO es clock)) :
    NewOf Tryd.prog 29 [.map (some mb)] w (fun b => .map (some b)) (mpO es clock) := by
  refine enter Tryd.func29 rfl (Mem.nil w []) rfl ?_
  refine z_ ?_
  refine Run.a (Val.mapNil Tryd.underlying55 rfl rfl rfl) ?_
  refine z_ ?_
  refine Run.a (Val.mkIm Tryd.underlying55 rfl rfl) ?_
  refine Run.nw (New.clone Tryd.func39 rfl rfl rfl rfl rfl rfl (fun w' hm => hm.old hmb)) ?_
  intro b
  refine Run.a (Val.assertM Tryd.underlying55 rfl rfl) ?_
  refine z_ ?_
  exact RQ.ret1 rfl (Res.tmp rfl) fun w' hm => NewOf.of (V := fun b => .map (some b)) hm m0
set_option maxRecDepth 10000 in set_option maxHeartbeats 4000000 in
theorem TCopy_calls {tb mb : Nat} (x : Tr tb mb) (w : World) (hw : Has x.L w) : Turns Tryd.prog 19 [.pointer (some ⟨tb, 0, none⟩)] w [] (Y := Nat × Nat) (fun y => .pointer (some ⟨y.1, 0, none⟩)) (fun y => [(y.1, Obj.cells #[.map (some y.2)] 57 (0, 0)), (y.2, mpO x.es x.clock)]) := by
  refine enter Tryd.func19 rfl (Mem.nil w []) rfl ?_
  have hc : w.cell? ⟨tb, 0, none⟩ = some (.map (some mb)) := by rw [cell_of_row w tb 0 _ _ _ (hw _ List.mem_cons_self)]; rfl
  have hmb : w.heap[mb]? = some (mpO x.es x.clock) := hw (mb, mpO x.es x.clock) m1
  refine z_ ?_
  refine Run.a (vlo hc) ?_
  refine Run.op1 (OpTo.callNew Tryd.func29 rfl rfl rfl rfl rfl rfl (fun w' hm => MClone_calls w' (hm.old hmb))) ?_
  intro m2
  refine Run.a (vbs #[.map (some m2)]) ?_
  refine Run.nw nbx ?_
  intro t2
  refine z_ ?_
  exact RQ.ret1 rfl (Res.tmp rfl) fun w' hm => Turns.of (Y := Nat × Nat) (V := fun y => .pointer (some ⟨y.1, 0, none⟩)) (L' := fun y => [(y.1, Obj.cells #[.map (some y.2)] 57 (0, 0)), (y.2, mpO x.es x.clock)]) (Lst := []) (t2, m2) hm (Lr := []) (List.Perm.refl _)
end Go.Proofs.YtaabinhpagbajaaDoor
