/- Lemmas. -/
import Derived.Test.YtkkfaffehbjdgaaGreatDoorPk14
set_option linter.unusedSimpArgs false
set_option linter.unusedVariables false
section
/- quorum: the reference's Zero; slices.Index, slices.Contains; May, MayParams. -/
namespace Go.Sha
/-- The keys of parameters are all different, and none is zero. -/
def kOk (l : List (List Nat)) : Bool := decide (zero8 ∉ l ∧ l.Nodup)
theorem kOk_bad {l : List (List Nat)} {i : Nat} {x : List Nat} (hx : l[i]? = some x) (h : x = zero8 ∨ x ∈ l.take i) : kOk l = false := by
  unfold kOk
  rw [decide_eq_false_iff_not]
  rintro ⟨h1, h2⟩
  rcases h with rfl | h
  · exact h1 (List.mem_of_getElem? hx)
  · have e : l = l.take i ++ l.drop i := (List.take_append_drop i l).symm
    rw [e] at h2
    have hd : x ∈ l.drop i := by
      have hi := (List.getElem?_eq_some_iff.1 hx).1
      rw [List.drop_eq_getElem_cons hi]
      have := (List.getElem?_eq_some_iff.1 hx).2
      rw [← this]
      exact List.mem_cons_self
    exact (List.nodup_append.1 h2).2.2 x h x hd rfl
theorem kOk_step {l : List (List Nat)} {i : Nat} {x : List Nat} (hx : l[i]? = some x) (h : zero8 ∉ l.take i ∧ (l.take i).Nodup) (h1 : x ≠ zero8) (h2 : x ∉ l.take i) : zero8 ∉ l.take (i + 1) ∧ (l.take (i + 1)).Nodup := by
  rw [List.take_add_one, hx]
  refine ⟨?_, List.nodup_append.2 ⟨h.2, by simp, ?_⟩⟩
  · intro hm
    rcases List.mem_append.1 hm with hm | hm
    · exact h.1 hm
    · simp at hm
      exact h1 hm.symm
  · intro a ha b hb
    simp at hb
    subst hb
    rintro rfl
    exact h2 ha
theorem kOk_good {l : List (List Nat)} (h : zero8 ∉ l.take l.length ∧ (l.take l.length).Nodup) : kOk l = true := by
  rw [List.take_length] at h
  exact decide_eq_true h
/-- Chapter 9: whether parameters may be. -/
def mayP (ln wd nd : Int) (l : List (List Nat)) : Bool := decide (1 ≤ l.length ∧ l.length ≤ 5 ∧ 1 ≤ nd ∧ nd ≤ l.length) && (kOk l && decide (2 ≤ ln ∧ ln ≤ 64 ∧ 1 ≤ wd ∧ wd ≤ ln))
theorem mayP_bad {ln wd nd : Int} {l : List (List Nat)} (h : ¬ (1 ≤ l.length ∧ l.length ≤ 5 ∧ 1 ≤ nd ∧ nd ≤ l.length)) : mayP ln wd nd l = false := by unfold mayP; rw [decide_eq_false h]; rfl
theorem mayP_keys {ln wd nd : Int} {l : List (List Nat)} (h : kOk l = false) : mayP ln wd nd l = false := by unfold mayP; rw [h]; simp
theorem mayP_time {ln wd nd : Int} {l : List (List Nat)} (h : ¬ (2 ≤ ln ∧ ln ≤ 64 ∧ 1 ≤ wd ∧ wd ≤ ln)) : mayP ln wd nd l = false := by unfold mayP; rw [decide_eq_false h]; simp
theorem mayP_good {ln wd nd : Int} {l : List (List Nat)} (h1 : 1 ≤ l.length ∧ l.length ≤ 5 ∧ 1 ≤ nd ∧ nd ≤ l.length) (h2 : kOk l = true) (h3 : 2 ≤ ln ∧ ln ≤ 64 ∧ 1 ≤ wd ∧ wd ≤ ln) : mayP ln wd nd l = true := by unfold mayP; rw [decide_eq_true h1, h2, decide_eq_true h3]; rfl
/-- Parameters, as cells. -/
def prm (ln wd nd : Int) (v : Go.Value) : List Go.Value := [.int .i64 ln, .int .i64 wd, .int .i64 nd, v]
end Go.Sha
namespace Go.Vc
open Go Go.Sha
/-- A hash of a row somewhere. -/
theorem hashAt {w : World} {ad : Addr} {l : List (List Nat)} (hH : HL l) (hr : ∀ j u, (u8s l.flatten)[j]? = some u → w.cell? (ad.add j) = some u) {i : Nat} {x : List Nat} (hx : l[i]? = some x) :
    ∀ j u, (u8s x)[j]? = some u → w.cell? ((ad.add (i * 8)).add j) = some u := fun j u hj => by
  rw [add_add]
  refine hr _ u ?_
  have := pc_row (c := 8) (l := l.flatten) i j u (by rw [pc_flat hH hx]; exact hj)
  rwa [List.getElem?_toArray] at this
end Go.Vc
namespace Go.Proofs.YtkkfaffehbjdgaaGreatDoor
open Go Go.Vc Go.Sha

set_option maxRecDepth 10000 in set_option maxHeartbeats 4000000 in
theorem ref_Zero_calls (a : List Nat) (ha : a.length = 8) (w : World) :
    Gives Tryz.prog 64 [.agg (u8s a).toArray] (.bool (decide (a = zero8))) w := by
  refine enter Tryz.func64 rfl (Mem.nil w []) rfl ?_
  (repeat refine RC.seq ?_); refine RC.region ?_
  refine Run.nw (New.boxA rfl rfl) ?_
  intro b1
  refine Run.a (Val.of rfl) ?_
  refine Run.nil (RQ.next ?_)
  (repeat refine RC.seq ?_); refine RC.region ?_
  refine Run.a (Val.loadU tabOk rfl rfl rfl rfl m0 ha) ?_
  refine Run.a (Val.buildA tabOk (parts := []) (cells := (u8s zero8).toArray) rfl rfl rfl rfl rfl rfl) ?_
  refine Run.a (Val.eqU (m := 8) (a := a) (b := zero8) tabOk rfl rfl rfl (by kernel_rfl) (by kernel_rfl) rfl rfl ha rfl) ?_
  refine Run.a (Val.of rfl) ?_
  refine Run.nil (RQ.next ?_)
  refine RC.ret ?_; (repeat first | refine RQ.thenRet ?_ | refine RQ.blockRet ?_); exact RQ.ret1 rfl (Res.tmp rfl) fun w' hm => ⟨rfl, hm.fr⟩

set_option maxRecDepth 10000 in set_option maxHeartbeats 4000000 in
theorem Index_calls (l : List (List Nat)) (hH : HL l) (hll : l.length ≤ 9223372036854775807) (x : List Nat) (hx8 : x.length = 8) (v : Value) (w : World) (hs : SrcW w 8 v l.length (u8s l.flatten)) :
    Calls Tryz.prog 93 #[v, .agg (u8s x).toArray] w fun e w' => ∃ z : Int, e = .returned (.int .i64 z) ∧ (0 ≤ z ↔ x ∈ l) ∧ Fr [] w w' := by
  refine enter Tryz.func93 rfl (Mem.nil w []) rfl ?_
  obtain ⟨va, vc, rfl, hvc⟩ := hs.shape
  (repeat refine RC.seq ?_); refine RC.region ?_
  refine Run.nw (New.boxA rfl rfl) ?_
  intro b3
  refine Run.a (Val.of rfl) ?_
  refine Run.nil (RQ.next ?_)
  (repeat refine RC.seq ?_); refine RC.region ?_
  refine Run.a (Val.of rfl) ?_
  refine Run.a (Val.len (len := l.length) tabOk rfl rfl rfl rfl) ?_
  refine Run.a (Val.of rfl) ?_
  refine Run.nil (RQ.next ?_)
  (repeat refine RC.seq ?_); refine RC.block ?_
  refine RC.up l.length (D := Unit) (fun i _ => x ∉ l.take i) (fun i _ => [(8, .int .i64 i), (7, .int .i64 l.length), (3, .pointer (some ⟨b3, 0, none⟩)), (0, .slice va l.length vc)])
    (fun _ _ => [(b3, .cells (u8s x).toArray 32 (0, 0))]) 0 () (Nat.zero_le _) (by simp) ⟨rfl, rfl, rfl, rfl, trivial⟩ (List.Sublist.refl _) ?_
  intro i _ hi hno
  (repeat refine RC.seq ?_); refine RC.region ?_
  refine Run.a (Val.of rfl) ?_
  refine Run.nil (RQ.next ?_)
  (repeat refine RC.seq ?_); refine RC.wh rfl (fun h => RQ.next ?_) (fun h => ?_)
  · have hi' : i < l.length := by have := of_decide_eq_true h; omega
    clear h
    obtain ⟨y, hy⟩ : ∃ y, l[i]? = some y := ⟨_, List.getElem?_eq_getElem hi'⟩
    have hy8 := hH y (List.mem_of_getElem? hy)
    obtain ⟨ad, c, hv, hc, hcl, hr⟩ := hs.pos (by omega)
    cases hv
    have hload := hashAt hH hr hy
    (repeat refine RC.seq ?_); refine RC.block ?_
    (repeat refine RC.seq ?_); refine RC.region ?_
    refine Run.a (Val.of rfl) ?_
    refine Run.a (Val.of rfl) ?_
    refine Run.nil (RQ.next ?_)
    (repeat refine RC.seq ?_); refine RC.drawS mixed (N := 6) rfl ?_
    refine DR.t 0 rfl (Val.loadU tabOk rfl rfl rfl rfl m0 hx8) ?_
    refine DR.t 1 rfl (Val.of rfl) ?_
    refine DR.t 2 rfl (Val.of rfl) ?_
    refine DR.t 3 rfl (Val.ixS tabOk i (ad' := ad.add (i * 8)) rfl rfl rfl rfl rfl rfl rfl hi' rfl) ?_
    refine DR.t 4 rfl (Val.loadOld tabOk (cs := u8s y) rfl rfl rfl rfl (by simp) (by rw [u8s_len, hy8.1]; rfl) hload) ?_
    refine DR.t 5 rfl (Val.eqU (m := 8) (a := x) (b := y) tabOk rfl rfl rfl (by kernel_rfl) (by kernel_rfl) rfl rfl hx8 hy8.1) ?_
    refine DR.done (by kernel_rfl) (RQ.next ?_)
    (repeat refine RC.seq ?_); refine RC.cond rfl (fun h => ?_) (fun h => ?_)
    · have h1 := of_decide_eq_true h
      (repeat refine RC.seq ?_); refine RC.region ?_
      refine Run.a (Val.of rfl) ?_
      refine Run.a (Val.of rfl) ?_
      refine Run.nil (RQ.next ?_)
      refine RC.ret ?_; (repeat first | refine RQ.thenRet ?_ | refine RQ.blockRet ?_)
      exact RQ.ret1 rfl (Res.tmp rfl) fun w' hm => ⟨_, rfl, ⟨fun _ => by rw [h1]; exact List.mem_of_getElem? hy, fun _ => by omega⟩, hm.fr⟩
    · have h1 := of_decide_eq_false h
      refine RC.skip (RQ.blockNormal (RQ.next ?_))
      refine RC.region ?_
      repeat (first | refine Run.a Val.ra ?_ | refine Run.a (Val.of rfl) ?_)
      refine Run.nil (RQ.up (i + 1) () (Nat.lt_succ_self _) hi' ?_ ⟨rfl, rfl, rfl, rfl, trivial⟩ (List.Sublist.refl _))
      rw [List.take_add_one, hy]
      simp only [List.mem_append, not_or]
      exact ⟨hno, by simpa using h1⟩
  · have hi' : i = l.length := by have := of_decide_eq_false h; omega
    subst hi'
    rw [List.take_length] at hno
    (repeat refine RQ.thenExit ?_); refine RQ.blockHere ?_
    refine RQ.next ?_
    (repeat refine RC.seq ?_); refine RC.region ?_
    refine Run.a (Val.of rfl) ?_
    refine Run.nil (RQ.next ?_)
    refine RC.ret ?_; (repeat first | refine RQ.thenRet ?_ | refine RQ.blockRet ?_)
    exact RQ.ret1 rfl (Res.tmp rfl) fun w' hm => ⟨_, rfl, ⟨fun h => absurd h (by decide), fun h => absurd h hno⟩, hm.fr⟩

set_option maxRecDepth 10000 in set_option maxHeartbeats 4000000 in
theorem Contains_calls (l : List (List Nat)) (hH : HL l) (hll : l.length ≤ 9223372036854775807) (x : List Nat) (hx8 : x.length = 8) (v : Value) (w : World) (hs : SrcW w 8 v l.length (u8s l.flatten)) :
    Gives Tryz.prog 66 [v, .agg (u8s x).toArray] (.bool (decide (x ∈ l))) w := by
  refine enter Tryz.func66 rfl (Mem.nil w []) rfl ?_
  (repeat refine RC.seq ?_); refine RC.region ?_
  refine Run.nw (New.boxA rfl rfl) ?_
  intro b3
  refine Run.a (Val.of rfl) ?_
  refine Run.nil (RQ.next ?_)
  (repeat refine RC.seq ?_); refine RC.region ?_
  refine Run.a (Val.of rfl) ?_
  refine Run.a (Val.loadU tabOk rfl rfl rfl rfl m0 hx8) ?_
  refine Run.op rfl (OpTo.call (Y := {z : Int // (0 ≤ z ↔ x ∈ l)}) (V := fun y => .int .i64 y.1) (L' := fun _ => _) Tryz.func93 rfl rfl rfl rfl rfl rfl (fun w' hm => (Index_calls l hH hll x hx8 v w' (hs.mem hm)).mono (by
    rintro e' w2 ⟨z, rfl, hz, hf⟩
    exact ⟨⟨z, hz⟩, rfl, hm.ext hf⟩))) ?_
  rintro ⟨z, hz⟩
  refine Run.a (Val.eq (Val.of rfl) (show _ = Value.bool (decide (x ∈ l)) from congrArg Value.bool (by rw [decide_eq_decide]; exact hz))) ?_
  refine Run.a (Val.of rfl) ?_
  refine Run.nil (RQ.next ?_)
  refine RC.ret ?_; (repeat first | refine RQ.thenRet ?_ | refine RQ.blockRet ?_); exact RQ.ret1 rfl (Res.tmp rfl) fun w' hm => ⟨rfl, hm.fr⟩

set_option maxRecDepth 10000 in set_option maxHeartbeats 4000000 in
theorem May_calls (ln wd nd : Int) (l : List (List Nat)) (hH : HL l) (hll : l.length ≤ 9223372036854775807) (v : Value) (w : World) (hs : SrcW w 8 v l.length (u8s l.flatten)) :
    Gives Tryz.prog 37 [.agg (prm ln wd nd v).toArray] (.bool (mayP ln wd nd l)) w := by
  refine enter Tryz.func37 rfl (Mem.nil w []) rfl ?_
  obtain ⟨va, vc, rfl, hvc⟩ := hs.shape
  (repeat refine RC.seq ?_); refine RC.region ?_
  refine Run.nw (New.boxA rfl rfl) ?_
  intro b1
  refine Run.a (Val.of rfl) ?_
  refine Run.nil (RQ.next ?_)
  (repeat refine RC.seq ?_); refine RC.region ?_
  refine Run.a (Val.fieldAddr tabOk rfl rfl rfl rfl rfl rfl rfl rfl) ?_
  refine Run.a (Val.load (v := .slice va l.length vc) tabOk rfl rfl rfl m0 rfl) ?_
  refine Run.a (Val.len (len := l.length) tabOk rfl rfl rfl rfl) ?_
  refine Run.a (Val.of rfl) ?_
  refine Run.nil (RQ.next ?_)
  by_cases h0 : l.length < 1
  · rw [mayP_bad (by omega)]
    (repeat refine RC.seq ?_); refine RC.region ?_
    refine Run.a (Val.of rfl) ?_
    refine Run.a (Val.eq (Val.of rfl) (show _ = Value.bool true from congrArg Value.bool (decide_eq_true (by omega)))) ?_
    refine Run.a (Val.of rfl) ?_
    refine Run.sk ?_
    refine Run.sk ?_
    refine Run.a (Val.of rfl) ?_
    refine Run.a (Val.of rfl) ?_
    refine Run.sk ?_
    refine Run.sk ?_
    refine Run.sk ?_
    refine Run.a (Val.of rfl) ?_
    refine Run.a (Val.of rfl) ?_
    refine Run.sk ?_
    refine Run.sk ?_
    refine Run.sk ?_
    refine Run.sk ?_
    refine Run.a (Val.of rfl) ?_
    refine Run.nil (RQ.next ?_)
    (repeat refine RC.seq ?_); refine RC.condT rfl rfl ?_
    (repeat refine RC.seq ?_); refine RC.region ?_
    refine Run.a (Val.of rfl) ?_
    refine Run.nil (RQ.next ?_)
    refine RC.ret ?_; (repeat first | refine RQ.thenRet ?_ | refine RQ.blockRet ?_); exact RQ.ret1 rfl (Res.tmp rfl) fun w' hm => ⟨rfl, hm.fr⟩
  by_cases h1 : 5 < l.length
  · rw [mayP_bad (by omega)]
    (repeat refine RC.seq ?_); refine RC.region ?_
    refine Run.a (Val.of rfl) ?_
    refine Run.a (Val.eq (Val.of rfl) (show _ = Value.bool false from congrArg Value.bool (decide_eq_false (by omega)))) ?_
    refine Run.a (Val.of rfl) ?_
    refine Run.a (Val.of rfl) ?_
    refine Run.a (Val.eq (Val.of rfl) (show _ = Value.bool true from congrArg Value.bool (decide_eq_true (by omega)))) ?_
    refine Run.a (Val.of rfl) ?_
    refine Run.a (Val.of rfl) ?_
    refine Run.sk ?_
    refine Run.sk ?_
    refine Run.sk ?_
    refine Run.a (Val.of rfl) ?_
    refine Run.a (Val.of rfl) ?_
    refine Run.sk ?_
    refine Run.sk ?_
    refine Run.sk ?_
    refine Run.sk ?_
    refine Run.a (Val.of rfl) ?_
    refine Run.nil (RQ.next ?_)
    (repeat refine RC.seq ?_); refine RC.condT rfl rfl ?_
    (repeat refine RC.seq ?_); refine RC.region ?_
    refine Run.a (Val.of rfl) ?_
    refine Run.nil (RQ.next ?_)
    refine RC.ret ?_; (repeat first | refine RQ.thenRet ?_ | refine RQ.blockRet ?_); exact RQ.ret1 rfl (Res.tmp rfl) fun w' hm => ⟨rfl, hm.fr⟩
  by_cases h2 : nd < 1
  · rw [mayP_bad (by omega)]
    (repeat refine RC.seq ?_); refine RC.region ?_
    refine Run.a (Val.of rfl) ?_
    refine Run.a (Val.eq (Val.of rfl) (show _ = Value.bool false from congrArg Value.bool (decide_eq_false (by omega)))) ?_
    refine Run.a (Val.of rfl) ?_
    refine Run.a (Val.of rfl) ?_
    refine Run.a (Val.eq (Val.of rfl) (show _ = Value.bool false from congrArg Value.bool (decide_eq_false (by omega)))) ?_
    refine Run.a (Val.of rfl) ?_
    refine Run.a (Val.of rfl) ?_
    refine Run.a (Val.fieldAddr tabOk rfl rfl rfl rfl rfl rfl rfl rfl) ?_
    refine Run.a (Val.load (v := .int .i64 nd) tabOk rfl rfl rfl m0 rfl) ?_
    refine Run.a (Val.eq (Val.of rfl) (show _ = Value.bool true from congrArg Value.bool (decide_eq_true (by omega)))) ?_
    refine Run.a (Val.of rfl) ?_
    refine Run.a (Val.of rfl) ?_
    refine Run.sk ?_
    refine Run.sk ?_
    refine Run.sk ?_
    refine Run.sk ?_
    refine Run.a (Val.of rfl) ?_
    refine Run.nil (RQ.next ?_)
    (repeat refine RC.seq ?_); refine RC.condT rfl rfl ?_
    (repeat refine RC.seq ?_); refine RC.region ?_
    refine Run.a (Val.of rfl) ?_
    refine Run.nil (RQ.next ?_)
    refine RC.ret ?_; (repeat first | refine RQ.thenRet ?_ | refine RQ.blockRet ?_); exact RQ.ret1 rfl (Res.tmp rfl) fun w' hm => ⟨rfl, hm.fr⟩
  by_cases h3 : (l.length : Int) < nd
  · rw [mayP_bad (by omega)]
    (repeat refine RC.seq ?_); refine RC.region ?_
    refine Run.a (Val.of rfl) ?_
    refine Run.a (Val.eq (Val.of rfl) (show _ = Value.bool false from congrArg Value.bool (decide_eq_false (by omega)))) ?_
    refine Run.a (Val.of rfl) ?_
    refine Run.a (Val.of rfl) ?_
    refine Run.a (Val.eq (Val.of rfl) (show _ = Value.bool false from congrArg Value.bool (decide_eq_false (by omega)))) ?_
    refine Run.a (Val.of rfl) ?_
    refine Run.a (Val.of rfl) ?_
    refine Run.a (Val.fieldAddr tabOk rfl rfl rfl rfl rfl rfl rfl rfl) ?_
    refine Run.a (Val.load (v := .int .i64 nd) tabOk rfl rfl rfl m0 rfl) ?_
    refine Run.a (Val.eq (Val.of rfl) (show _ = Value.bool false from congrArg Value.bool (decide_eq_false (by omega)))) ?_
    refine Run.a (Val.of rfl) ?_
    refine Run.a (Val.of rfl) ?_
    refine Run.a (Val.fieldAddr tabOk rfl rfl rfl rfl rfl rfl rfl rfl) ?_
    refine Run.a (Val.load (v := .int .i64 nd) tabOk rfl rfl rfl m0 rfl) ?_
    refine Run.a (Val.of rfl) ?_
    refine Run.a (Val.eq (Val.of rfl) (show _ = Value.bool true from congrArg Value.bool (decide_eq_true (by omega)))) ?_
    refine Run.a (Val.of rfl) ?_
    refine Run.nil (RQ.next ?_)
    (repeat refine RC.seq ?_); refine RC.condT rfl rfl ?_
    (repeat refine RC.seq ?_); refine RC.region ?_
    refine Run.a (Val.of rfl) ?_
    refine Run.nil (RQ.next ?_)
    refine RC.ret ?_; (repeat first | refine RQ.thenRet ?_ | refine RQ.blockRet ?_); exact RQ.ret1 rfl (Res.tmp rfl) fun w' hm => ⟨rfl, hm.fr⟩
  (repeat refine RC.seq ?_); refine RC.region ?_
  refine Run.a (Val.of rfl) ?_
  refine Run.a (Val.eq (Val.of rfl) (show _ = Value.bool false from congrArg Value.bool (decide_eq_false (by omega)))) ?_
  refine Run.a (Val.of rfl) ?_
  refine Run.a (Val.of rfl) ?_
  refine Run.a (Val.eq (Val.of rfl) (show _ = Value.bool false from congrArg Value.bool (decide_eq_false (by omega)))) ?_
  refine Run.a (Val.of rfl) ?_
  refine Run.a (Val.of rfl) ?_
  refine Run.a (Val.fieldAddr tabOk rfl rfl rfl rfl rfl rfl rfl rfl) ?_
  refine Run.a (Val.load (v := .int .i64 nd) tabOk rfl rfl rfl m0 rfl) ?_
  refine Run.a (Val.eq (Val.of rfl) (show _ = Value.bool false from congrArg Value.bool (decide_eq_false (by omega)))) ?_
  refine Run.a (Val.of rfl) ?_
  refine Run.a (Val.of rfl) ?_
  refine Run.a (Val.fieldAddr tabOk rfl rfl rfl rfl rfl rfl rfl rfl) ?_
  refine Run.a (Val.load (v := .int .i64 nd) tabOk rfl rfl rfl m0 rfl) ?_
  refine Run.a (Val.of rfl) ?_
  refine Run.a (Val.eq (Val.of rfl) (show _ = Value.bool false from congrArg Value.bool (decide_eq_false (by omega)))) ?_
  refine Run.a (Val.of rfl) ?_
  refine Run.nil (RQ.next ?_)
  (repeat refine RC.seq ?_); refine RC.condF rfl rfl (RC.skip (RQ.next ?_))
  have hcond : 1 ≤ l.length ∧ l.length ≤ 5 ∧ 1 ≤ nd ∧ nd ≤ l.length := by omega
  obtain ⟨ad, c, hv, hc, hcl, hr⟩ := hs.pos (by omega)
  cases hv
  (repeat refine RC.seq ?_); refine RC.region ?_
  refine Run.a (Val.fieldAddr tabOk rfl rfl rfl rfl rfl rfl rfl rfl) ?_
  refine Run.a (Val.load (v := .slice (some ad) l.length vc) tabOk rfl rfl rfl m0 rfl) ?_
  refine Run.a (Val.len (len := l.length) tabOk rfl rfl rfl rfl) ?_
  refine Run.a (Val.of rfl) ?_
  refine Run.nil (RQ.next ?_)
  (repeat refine RC.seq ?_); refine RC.block ?_
  refine RC.up l.length (D := Unit) (fun i _ => zero8 ∉ l.take i ∧ (l.take i).Nodup) (fun i _ => [(29, .int .i64 i), (28, .int .i64 l.length), (27, .slice (some ad) l.length vc), (1, .pointer (some ⟨b1, 0, none⟩))])
    (fun _ _ => [(b1, .cells (prm ln wd nd (.slice (some ad) l.length vc)).toArray 43 (0, 0))]) 0 () (Nat.zero_le _) (by simp) ⟨rfl, rfl, rfl, rfl, trivial⟩ (List.Sublist.refl _) ?_
  intro i _ hi hok
  (repeat refine RC.seq ?_); refine RC.region ?_
  refine Run.a (Val.of rfl) ?_
  refine Run.nil (RQ.next ?_)
  (repeat refine RC.seq ?_); refine RC.wh rfl (fun h => RQ.next ?_) (fun h => ?_)
  · have hi' : i < l.length := by have := of_decide_eq_true h; omega
    clear h
    obtain ⟨y, hy⟩ : ∃ y, l[i]? = some y := ⟨_, List.getElem?_eq_getElem hi'⟩
    have hy8 := hH y (List.mem_of_getElem? hy)
    have hload := hashAt hH hr hy
    have hsl : SrcW w 8 (.slice (some ad) i vc) (l.take i).length (u8s (l.take i).flatten) := by
      rw [List.length_take, Nat.min_eq_left (by omega), flatten_take _ hH, u8s_take]
      exact SrcW.takeN hcl hr (by omega) hc
    (repeat refine RC.seq ?_); refine RC.block ?_
    (repeat refine RC.seq ?_); refine RC.region ?_
    refine Run.a (Val.of rfl) ?_
    refine Run.a (Val.ixS tabOk i (ad' := ad.add (i * 8)) rfl rfl rfl rfl rfl rfl rfl hi' rfl) ?_
    refine Run.a (Val.loadOld tabOk (cs := u8s y) rfl rfl rfl rfl (by simp) (by rw [u8s_len, hy8.1]; rfl) hload) ?_
    refine Run.nw (New.alloc tabOk rfl rfl) ?_
    intro b5
    refine Run.a (Val.of rfl) ?_
    refine Run.op1 (OpTo.setAll tabOk rfl rfl rfl rfl rfl (List.Perm.refl _) hy8.1 rfl) (fun _ => ?_)
    refine Run.nil (RQ.next ?_)
    (repeat refine RC.seq ?_); refine RC.drawS mixed (N := 10) rfl ?_
    refine DR.t 0 rfl (Val.loadU tabOk rfl rfl rfl rfl m0 hy8.1) ?_
    refine DR.c 1 ?_
    refine DOp.op1 rfl (OpTo.callV Tryz.func65 rfl rfl rfl rfl rfl rfl (fun w' _ => Zero_calls y hy8.1 w')) (fun _ => ?_)
    by_cases hz : y = zero8
    · rw [mayP_keys (kOk_bad hy (.inl hz)), decide_eq_true (show y = List.replicate 8 0 from hz)]
      refine DR.t 2 rfl (Val.of rfl) ?_
      refine DR.p 3 rfl ?_
      refine DR.p 4 rfl ?_
      refine DR.p 5 rfl ?_
      refine DR.p 6 rfl ?_
      refine DR.p 7 rfl ?_
      refine DR.cp 8 rfl ?_
      refine DR.t 9 rfl (Val.of rfl) ?_
      refine DR.done (by kernel_rfl) (RQ.next ?_)
      (repeat refine RC.seq ?_); refine RC.condT rfl rfl ?_
      (repeat refine RC.seq ?_); refine RC.region ?_
      refine Run.a (Val.of rfl) ?_
      refine Run.nil (RQ.next ?_)
      refine RC.ret ?_; (repeat first | refine RQ.thenRet ?_ | refine RQ.blockRet ?_); exact RQ.ret1 rfl (Res.tmp rfl) fun w' hm => ⟨rfl, hm.fr⟩
    · rw [decide_eq_false (show ¬ y = List.replicate 8 0 from hz)]
      refine DR.t 2 rfl (Val.of rfl) ?_
      refine DR.t 3 rfl (Val.fieldAddr tabOk rfl rfl rfl rfl rfl rfl rfl rfl) ?_
      refine DR.t 4 rfl (Val.load (v := .slice (some ad) l.length vc) tabOk rfl rfl rfl m1 rfl) ?_
      refine DR.t 5 rfl (Val.of rfl) ?_
      refine DR.t 6 rfl (Val.eq (Val.sliceS' tabOk 0 i rfl rfl rfl rfl rfl (.inl ⟨rfl, rfl⟩) (.inr ⟨_, rfl, rfl⟩) (by omega) (by omega) (by omega) rfl) (show _ = Value.slice (some ad) i vc from by rw [Nat.zero_mul, add_zero_, Nat.sub_zero, Nat.sub_zero])) ?_
      refine DR.t 7 rfl (Val.loadU tabOk rfl rfl rfl rfl m0 hy8.1) ?_
      refine DR.c 8 ?_
      refine DOp.op1 rfl (OpTo.callV Tryz.func66 rfl rfl rfl rfl rfl rfl (fun w' hm => Contains_calls _ (hH.take i) (by rw [List.length_take]; omega) y hy8.1 _ w' (hsl.mem hm))) (fun _ => ?_)
      refine DR.t 9 rfl (Val.of rfl) ?_
      refine DR.done (by kernel_rfl) (RQ.next ?_)
      (repeat refine RC.seq ?_); refine RC.cond rfl (fun h => ?_) (fun h => ?_)
      · have h1 := of_decide_eq_true h
        rw [mayP_keys (kOk_bad hy (.inr h1))]
        (repeat refine RC.seq ?_); refine RC.region ?_
        refine Run.a (Val.of rfl) ?_
        refine Run.nil (RQ.next ?_)
        refine RC.ret ?_; (repeat first | refine RQ.thenRet ?_ | refine RQ.blockRet ?_); exact RQ.ret1 rfl (Res.tmp rfl) fun w' hm => ⟨rfl, hm.fr⟩
      · have h1 := of_decide_eq_false h
        refine RC.skip (RQ.blockNormal (RQ.next ?_))
        refine RC.region ?_
        repeat (first | refine Run.a Val.ra ?_ | refine Run.a (Val.of rfl) ?_)
        exact Run.nil (RQ.up (i + 1) () (Nat.lt_succ_self _) hi' (kOk_step hy hok hz h1) ⟨rfl, rfl, rfl, rfl, trivial⟩ (List.Sublist.cons _ (List.Sublist.refl _)))
  · have hi' : i = l.length := by have := of_decide_eq_false h; omega
    subst hi'
    have hk := kOk_good hok
    (repeat refine RQ.thenExit ?_); refine RQ.blockHere ?_
    refine RQ.next ?_
    by_cases g0 : ¬ 2 ≤ ln
    · rw [mayP_time (by omega)]
      (repeat refine RC.seq ?_); refine RC.region ?_
      refine Run.a (Val.fieldAddr tabOk rfl rfl rfl rfl rfl rfl rfl rfl) ?_
      refine Run.a (Val.load (v := .int .i64 ln) tabOk rfl rfl rfl m0 rfl) ?_
      refine Run.a (Val.eq (Val.of rfl) (show _ = Value.bool false from congrArg Value.bool (decide_eq_false (by omega)))) ?_
      refine Run.a (Val.of rfl) ?_
      refine Run.sk ?_
      refine Run.sk ?_
      refine Run.sk ?_
      refine Run.a (Val.of rfl) ?_
      refine Run.a (Val.of rfl) ?_
      refine Run.sk ?_
      refine Run.sk ?_
      refine Run.sk ?_
      refine Run.a (Val.of rfl) ?_
      refine Run.a (Val.of rfl) ?_
      refine Run.sk ?_
      refine Run.sk ?_
      refine Run.sk ?_
      refine Run.sk ?_
      refine Run.sk ?_
      refine Run.a (Val.of rfl) ?_
      refine Run.a (Val.of rfl) ?_
      refine Run.nil (RQ.next ?_)
      refine RC.ret ?_; (repeat first | refine RQ.thenRet ?_ | refine RQ.blockRet ?_); exact RQ.ret1 rfl (Res.tmp rfl) fun w' hm => ⟨rfl, hm.fr⟩
    by_cases g1 : ¬ ln ≤ 64
    · rw [mayP_time (by omega)]
      (repeat refine RC.seq ?_); refine RC.region ?_
      refine Run.a (Val.fieldAddr tabOk rfl rfl rfl rfl rfl rfl rfl rfl) ?_
      refine Run.a (Val.load (v := .int .i64 ln) tabOk rfl rfl rfl m0 rfl) ?_
      refine Run.a (Val.eq (Val.of rfl) (show _ = Value.bool true from congrArg Value.bool (decide_eq_true (by omega)))) ?_
      refine Run.a (Val.of rfl) ?_
      refine Run.a (Val.fieldAddr tabOk rfl rfl rfl rfl rfl rfl rfl rfl) ?_
      refine Run.a (Val.load (v := .int .i64 ln) tabOk rfl rfl rfl m0 rfl) ?_
      refine Run.a (Val.eq (Val.of rfl) (show _ = Value.bool false from congrArg Value.bool (decide_eq_false (by omega)))) ?_
      refine Run.a (Val.of rfl) ?_
      refine Run.a (Val.of rfl) ?_
      refine Run.sk ?_
      refine Run.sk ?_
      refine Run.sk ?_
      refine Run.a (Val.of rfl) ?_
      refine Run.a (Val.of rfl) ?_
      refine Run.sk ?_
      refine Run.sk ?_
      refine Run.sk ?_
      refine Run.sk ?_
      refine Run.sk ?_
      refine Run.a (Val.of rfl) ?_
      refine Run.a (Val.of rfl) ?_
      refine Run.nil (RQ.next ?_)
      refine RC.ret ?_; (repeat first | refine RQ.thenRet ?_ | refine RQ.blockRet ?_); exact RQ.ret1 rfl (Res.tmp rfl) fun w' hm => ⟨rfl, hm.fr⟩
    by_cases g2 : ¬ 1 ≤ wd
    · rw [mayP_time (by omega)]
      (repeat refine RC.seq ?_); refine RC.region ?_
      refine Run.a (Val.fieldAddr tabOk rfl rfl rfl rfl rfl rfl rfl rfl) ?_
      refine Run.a (Val.load (v := .int .i64 ln) tabOk rfl rfl rfl m0 rfl) ?_
      refine Run.a (Val.eq (Val.of rfl) (show _ = Value.bool true from congrArg Value.bool (decide_eq_true (by omega)))) ?_
      refine Run.a (Val.of rfl) ?_
      refine Run.a (Val.fieldAddr tabOk rfl rfl rfl rfl rfl rfl rfl rfl) ?_
      refine Run.a (Val.load (v := .int .i64 ln) tabOk rfl rfl rfl m0 rfl) ?_
      refine Run.a (Val.eq (Val.of rfl) (show _ = Value.bool true from congrArg Value.bool (decide_eq_true (by omega)))) ?_
      refine Run.a (Val.of rfl) ?_
      refine Run.a (Val.of rfl) ?_
      refine Run.a (Val.fieldAddr tabOk rfl rfl rfl rfl rfl rfl rfl rfl) ?_
      refine Run.a (Val.load (v := .int .i64 wd) tabOk rfl rfl rfl m0 rfl) ?_
      refine Run.a (Val.eq (Val.of rfl) (show _ = Value.bool false from congrArg Value.bool (decide_eq_false (by omega)))) ?_
      refine Run.a (Val.of rfl) ?_
      refine Run.a (Val.of rfl) ?_
      refine Run.sk ?_
      refine Run.sk ?_
      refine Run.sk ?_
      refine Run.sk ?_
      refine Run.sk ?_
      refine Run.a (Val.of rfl) ?_
      refine Run.a (Val.of rfl) ?_
      refine Run.nil (RQ.next ?_)
      refine RC.ret ?_; (repeat first | refine RQ.thenRet ?_ | refine RQ.blockRet ?_); exact RQ.ret1 rfl (Res.tmp rfl) fun w' hm => ⟨rfl, hm.fr⟩
    by_cases g3 : ¬ wd ≤ ln
    · rw [mayP_time (by omega)]
      (repeat refine RC.seq ?_); refine RC.region ?_
      refine Run.a (Val.fieldAddr tabOk rfl rfl rfl rfl rfl rfl rfl rfl) ?_
      refine Run.a (Val.load (v := .int .i64 ln) tabOk rfl rfl rfl m0 rfl) ?_
      refine Run.a (Val.eq (Val.of rfl) (show _ = Value.bool true from congrArg Value.bool (decide_eq_true (by omega)))) ?_
      refine Run.a (Val.of rfl) ?_
      refine Run.a (Val.fieldAddr tabOk rfl rfl rfl rfl rfl rfl rfl rfl) ?_
      refine Run.a (Val.load (v := .int .i64 ln) tabOk rfl rfl rfl m0 rfl) ?_
      refine Run.a (Val.eq (Val.of rfl) (show _ = Value.bool true from congrArg Value.bool (decide_eq_true (by omega)))) ?_
      refine Run.a (Val.of rfl) ?_
      refine Run.a (Val.of rfl) ?_
      refine Run.a (Val.fieldAddr tabOk rfl rfl rfl rfl rfl rfl rfl rfl) ?_
      refine Run.a (Val.load (v := .int .i64 wd) tabOk rfl rfl rfl m0 rfl) ?_
      refine Run.a (Val.eq (Val.of rfl) (show _ = Value.bool true from congrArg Value.bool (decide_eq_true (by omega)))) ?_
      refine Run.a (Val.of rfl) ?_
      refine Run.a (Val.of rfl) ?_
      refine Run.a (Val.fieldAddr tabOk rfl rfl rfl rfl rfl rfl rfl rfl) ?_
      refine Run.a (Val.load (v := .int .i64 wd) tabOk rfl rfl rfl m0 rfl) ?_
      refine Run.a (Val.fieldAddr tabOk rfl rfl rfl rfl rfl rfl rfl rfl) ?_
      refine Run.a (Val.load (v := .int .i64 ln) tabOk rfl rfl rfl m0 rfl) ?_
      refine Run.a (Val.eq (Val.of rfl) (show _ = Value.bool false from congrArg Value.bool (decide_eq_false (by omega)))) ?_
      refine Run.a (Val.of rfl) ?_
      refine Run.a (Val.of rfl) ?_
      refine Run.nil (RQ.next ?_)
      refine RC.ret ?_; (repeat first | refine RQ.thenRet ?_ | refine RQ.blockRet ?_); exact RQ.ret1 rfl (Res.tmp rfl) fun w' hm => ⟨rfl, hm.fr⟩
    rw [mayP_good hcond hk (by omega)]
    (repeat refine RC.seq ?_); refine RC.region ?_
    refine Run.a (Val.fieldAddr tabOk rfl rfl rfl rfl rfl rfl rfl rfl) ?_
    refine Run.a (Val.load (v := .int .i64 ln) tabOk rfl rfl rfl m0 rfl) ?_
    refine Run.a (Val.eq (Val.of rfl) (show _ = Value.bool true from congrArg Value.bool (decide_eq_true (by omega)))) ?_
    refine Run.a (Val.of rfl) ?_
    refine Run.a (Val.fieldAddr tabOk rfl rfl rfl rfl rfl rfl rfl rfl) ?_
    refine Run.a (Val.load (v := .int .i64 ln) tabOk rfl rfl rfl m0 rfl) ?_
    refine Run.a (Val.eq (Val.of rfl) (show _ = Value.bool true from congrArg Value.bool (decide_eq_true (by omega)))) ?_
    refine Run.a (Val.of rfl) ?_
    refine Run.a (Val.of rfl) ?_
    refine Run.a (Val.fieldAddr tabOk rfl rfl rfl rfl rfl rfl rfl rfl) ?_
    refine Run.a (Val.load (v := .int .i64 wd) tabOk rfl rfl rfl m0 rfl) ?_
    refine Run.a (Val.eq (Val.of rfl) (show _ = Value.bool true from congrArg Value.bool (decide_eq_true (by omega)))) ?_
    refine Run.a (Val.of rfl) ?_
    refine Run.a (Val.of rfl) ?_
    refine Run.a (Val.fieldAddr tabOk rfl rfl rfl rfl rfl rfl rfl rfl) ?_
    refine Run.a (Val.load (v := .int .i64 wd) tabOk rfl rfl rfl m0 rfl) ?_
    refine Run.a (Val.fieldAddr tabOk rfl rfl rfl rfl rfl rfl rfl rfl) ?_
    refine Run.a (Val.load (v := .int .i64 ln) tabOk rfl rfl rfl m0 rfl) ?_
    refine Run.a (Val.eq (Val.of rfl) (show _ = Value.bool true from congrArg Value.bool (decide_eq_true (by omega)))) ?_
    refine Run.a (Val.of rfl) ?_
    refine Run.a (Val.of rfl) ?_
    refine Run.nil (RQ.next ?_)
    refine RC.ret ?_; (repeat first | refine RQ.thenRet ?_ | refine RQ.blockRet ?_); exact RQ.ret1 rfl (Res.tmp rfl) fun w' hm => ⟨rfl, hm.fr⟩

set_option maxRecDepth 10000 in set_option maxHeartbeats 4000000 in
theorem MayParams_calls (ln wd nd : Int) (l : List (List Nat)) (hH : HL l) (hll : l.length ≤ 9223372036854775807) (v : Value) (w : World) (hs : SrcW w 8 v l.length (u8s l.flatten)) :
    Gives Tryz.prog 40 [.agg (prm ln wd nd v).toArray] (.bool (mayP ln wd nd l)) w := by
  refine enter Tryz.func40 rfl (Mem.nil w []) rfl ?_
  obtain ⟨va, vc, rfl, hvc⟩ := hs.shape
  (repeat refine RC.seq ?_); refine RC.region ?_
  refine Run.nw (New.boxA rfl rfl) ?_
  intro b1
  refine Run.a (Val.of rfl) ?_
  refine Run.nil (RQ.next ?_)
  by_cases h0 : l.length < 1
  · rw [mayP_bad (by omega)]
    (repeat refine RC.seq ?_); refine RC.region ?_
    refine Run.a (Val.fieldAddr tabOk rfl rfl rfl rfl rfl rfl rfl rfl) ?_
    refine Run.a (Val.load (v := .slice va l.length vc) tabOk rfl rfl rfl m0 rfl) ?_
    refine Run.a (Val.len (len := l.length) tabOk rfl rfl rfl rfl) ?_
    refine Run.a (Val.eq (Val.of rfl) (show _ = Value.bool true from congrArg Value.bool (decide_eq_true (by omega)))) ?_
    refine Run.a (Val.of rfl) ?_
    refine Run.sk ?_
    refine Run.sk ?_
    refine Run.sk ?_
    refine Run.sk ?_
    refine Run.a (Val.of rfl) ?_
    refine Run.a (Val.of rfl) ?_
    refine Run.sk ?_
    refine Run.sk ?_
    refine Run.sk ?_
    refine Run.a (Val.of rfl) ?_
    refine Run.a (Val.of rfl) ?_
    refine Run.sk ?_
    refine Run.sk ?_
    refine Run.sk ?_
    refine Run.sk ?_
    refine Run.sk ?_
    refine Run.sk ?_
    refine Run.a (Val.of rfl) ?_
    refine Run.a (Val.of rfl) ?_
    refine Run.sk ?_
    refine Run.sk ?_
    refine Run.sk ?_
    refine Run.a (Val.of rfl) ?_
    refine Run.a (Val.of rfl) ?_
    refine Run.sk ?_
    refine Run.sk ?_
    refine Run.sk ?_
    refine Run.a (Val.of rfl) ?_
    refine Run.a (Val.of rfl) ?_
    refine Run.sk ?_
    refine Run.sk ?_
    refine Run.sk ?_
    refine Run.a (Val.of rfl) ?_
    refine Run.a (Val.of rfl) ?_
    refine Run.sk ?_
    refine Run.sk ?_
    refine Run.sk ?_
    refine Run.sk ?_
    refine Run.sk ?_
    refine Run.a (Val.of rfl) ?_
    refine Run.nil (RQ.next ?_)
    (repeat refine RC.seq ?_); refine RC.condT rfl rfl ?_
    (repeat refine RC.seq ?_); refine RC.region ?_
    refine Run.a (Val.of rfl) ?_
    refine Run.nil (RQ.next ?_)
    refine RC.ret ?_; (repeat first | refine RQ.thenRet ?_ | refine RQ.blockRet ?_); exact RQ.ret1 rfl (Res.tmp rfl) fun w' hm => ⟨rfl, hm.fr⟩
  by_cases h1 : 5 < l.length
  · rw [mayP_bad (by omega)]
    (repeat refine RC.seq ?_); refine RC.region ?_
    refine Run.a (Val.fieldAddr tabOk rfl rfl rfl rfl rfl rfl rfl rfl) ?_
    refine Run.a (Val.load (v := .slice va l.length vc) tabOk rfl rfl rfl m0 rfl) ?_
    refine Run.a (Val.len (len := l.length) tabOk rfl rfl rfl rfl) ?_
    refine Run.a (Val.eq (Val.of rfl) (show _ = Value.bool false from congrArg Value.bool (decide_eq_false (by omega)))) ?_
    refine Run.a (Val.of rfl) ?_
    refine Run.a (Val.fieldAddr tabOk rfl rfl rfl rfl rfl rfl rfl rfl) ?_
    refine Run.a (Val.load (v := .slice va l.length vc) tabOk rfl rfl rfl m0 rfl) ?_
    refine Run.a (Val.len (len := l.length) tabOk rfl rfl rfl rfl) ?_
    refine Run.a (Val.eq (Val.of rfl) (show _ = Value.bool true from congrArg Value.bool (decide_eq_true (by omega)))) ?_
    refine Run.a (Val.of rfl) ?_
    refine Run.a (Val.of rfl) ?_
    refine Run.sk ?_
    refine Run.sk ?_
    refine Run.sk ?_
    refine Run.a (Val.of rfl) ?_
    refine Run.a (Val.of rfl) ?_
    refine Run.sk ?_
    refine Run.sk ?_
    refine Run.sk ?_
    refine Run.sk ?_
    refine Run.sk ?_
    refine Run.sk ?_
    refine Run.a (Val.of rfl) ?_
    refine Run.a (Val.of rfl) ?_
    refine Run.sk ?_
    refine Run.sk ?_
    refine Run.sk ?_
    refine Run.a (Val.of rfl) ?_
    refine Run.a (Val.of rfl) ?_
    refine Run.sk ?_
    refine Run.sk ?_
    refine Run.sk ?_
    refine Run.a (Val.of rfl) ?_
    refine Run.a (Val.of rfl) ?_
    refine Run.sk ?_
    refine Run.sk ?_
    refine Run.sk ?_
    refine Run.a (Val.of rfl) ?_
    refine Run.a (Val.of rfl) ?_
    refine Run.sk ?_
    refine Run.sk ?_
    refine Run.sk ?_
    refine Run.sk ?_
    refine Run.sk ?_
    refine Run.a (Val.of rfl) ?_
    refine Run.nil (RQ.next ?_)
    (repeat refine RC.seq ?_); refine RC.condT rfl rfl ?_
    (repeat refine RC.seq ?_); refine RC.region ?_
    refine Run.a (Val.of rfl) ?_
    refine Run.nil (RQ.next ?_)
    refine RC.ret ?_; (repeat first | refine RQ.thenRet ?_ | refine RQ.blockRet ?_); exact RQ.ret1 rfl (Res.tmp rfl) fun w' hm => ⟨rfl, hm.fr⟩
  by_cases h2 : nd < 1
  · rw [mayP_bad (by omega)]
    (repeat refine RC.seq ?_); refine RC.region ?_
    refine Run.a (Val.fieldAddr tabOk rfl rfl rfl rfl rfl rfl rfl rfl) ?_
    refine Run.a (Val.load (v := .slice va l.length vc) tabOk rfl rfl rfl m0 rfl) ?_
    refine Run.a (Val.len (len := l.length) tabOk rfl rfl rfl rfl) ?_
    refine Run.a (Val.eq (Val.of rfl) (show _ = Value.bool false from congrArg Value.bool (decide_eq_false (by omega)))) ?_
    refine Run.a (Val.of rfl) ?_
    refine Run.a (Val.fieldAddr tabOk rfl rfl rfl rfl rfl rfl rfl rfl) ?_
    refine Run.a (Val.load (v := .slice va l.length vc) tabOk rfl rfl rfl m0 rfl) ?_
    refine Run.a (Val.len (len := l.length) tabOk rfl rfl rfl rfl) ?_
    refine Run.a (Val.eq (Val.of rfl) (show _ = Value.bool false from congrArg Value.bool (decide_eq_false (by omega)))) ?_
    refine Run.a (Val.of rfl) ?_
    refine Run.a (Val.of rfl) ?_
    refine Run.a (Val.fieldAddr tabOk rfl rfl rfl rfl rfl rfl rfl rfl) ?_
    refine Run.a (Val.load (v := .int .i64 nd) tabOk rfl rfl rfl m0 rfl) ?_
    refine Run.a (Val.eq (Val.of rfl) (show _ = Value.bool true from congrArg Value.bool (decide_eq_true (by omega)))) ?_
    refine Run.a (Val.of rfl) ?_
    refine Run.a (Val.of rfl) ?_
    refine Run.sk ?_
    refine Run.sk ?_
    refine Run.sk ?_
    refine Run.sk ?_
    refine Run.sk ?_
    refine Run.sk ?_
    refine Run.a (Val.of rfl) ?_
    refine Run.a (Val.of rfl) ?_
    refine Run.sk ?_
    refine Run.sk ?_
    refine Run.sk ?_
    refine Run.a (Val.of rfl) ?_
    refine Run.a (Val.of rfl) ?_
    refine Run.sk ?_
    refine Run.sk ?_
    refine Run.sk ?_
    refine Run.a (Val.of rfl) ?_
    refine Run.a (Val.of rfl) ?_
    refine Run.sk ?_
    refine Run.sk ?_
    refine Run.sk ?_
    refine Run.a (Val.of rfl) ?_
    refine Run.a (Val.of rfl) ?_
    refine Run.sk ?_
    refine Run.sk ?_
    refine Run.sk ?_
    refine Run.sk ?_
    refine Run.sk ?_
    refine Run.a (Val.of rfl) ?_
    refine Run.nil (RQ.next ?_)
    (repeat refine RC.seq ?_); refine RC.condT rfl rfl ?_
    (repeat refine RC.seq ?_); refine RC.region ?_
    refine Run.a (Val.of rfl) ?_
    refine Run.nil (RQ.next ?_)
    refine RC.ret ?_; (repeat first | refine RQ.thenRet ?_ | refine RQ.blockRet ?_); exact RQ.ret1 rfl (Res.tmp rfl) fun w' hm => ⟨rfl, hm.fr⟩
  by_cases h3 : (l.length : Int) < nd
  · rw [mayP_bad (by omega)]
    (repeat refine RC.seq ?_); refine RC.region ?_
    refine Run.a (Val.fieldAddr tabOk rfl rfl rfl rfl rfl rfl rfl rfl) ?_
    refine Run.a (Val.load (v := .slice va l.length vc) tabOk rfl rfl rfl m0 rfl) ?_
    refine Run.a (Val.len (len := l.length) tabOk rfl rfl rfl rfl) ?_
    refine Run.a (Val.eq (Val.of rfl) (show _ = Value.bool false from congrArg Value.bool (decide_eq_false (by omega)))) ?_
    refine Run.a (Val.of rfl) ?_
    refine Run.a (Val.fieldAddr tabOk rfl rfl rfl rfl rfl rfl rfl rfl) ?_
    refine Run.a (Val.load (v := .slice va l.length vc) tabOk rfl rfl rfl m0 rfl) ?_
    refine Run.a (Val.len (len := l.length) tabOk rfl rfl rfl rfl) ?_
    refine Run.a (Val.eq (Val.of rfl) (show _ = Value.bool false from congrArg Value.bool (decide_eq_false (by omega)))) ?_
    refine Run.a (Val.of rfl) ?_
    refine Run.a (Val.of rfl) ?_
    refine Run.a (Val.fieldAddr tabOk rfl rfl rfl rfl rfl rfl rfl rfl) ?_
    refine Run.a (Val.load (v := .int .i64 nd) tabOk rfl rfl rfl m0 rfl) ?_
    refine Run.a (Val.eq (Val.of rfl) (show _ = Value.bool false from congrArg Value.bool (decide_eq_false (by omega)))) ?_
    refine Run.a (Val.of rfl) ?_
    refine Run.a (Val.of rfl) ?_
    refine Run.a (Val.fieldAddr tabOk rfl rfl rfl rfl rfl rfl rfl rfl) ?_
    refine Run.a (Val.load (v := .int .i64 nd) tabOk rfl rfl rfl m0 rfl) ?_
    refine Run.a (Val.fieldAddr tabOk rfl rfl rfl rfl rfl rfl rfl rfl) ?_
    refine Run.a (Val.load (v := .slice va l.length vc) tabOk rfl rfl rfl m0 rfl) ?_
    refine Run.a (Val.len (len := l.length) tabOk rfl rfl rfl rfl) ?_
    refine Run.a (Val.eq (Val.of rfl) (show _ = Value.bool true from congrArg Value.bool (decide_eq_true (by omega)))) ?_
    refine Run.a (Val.of rfl) ?_
    refine Run.a (Val.of rfl) ?_
    refine Run.sk ?_
    refine Run.sk ?_
    refine Run.sk ?_
    refine Run.a (Val.of rfl) ?_
    refine Run.a (Val.of rfl) ?_
    refine Run.sk ?_
    refine Run.sk ?_
    refine Run.sk ?_
    refine Run.a (Val.of rfl) ?_
    refine Run.a (Val.of rfl) ?_
    refine Run.sk ?_
    refine Run.sk ?_
    refine Run.sk ?_
    refine Run.a (Val.of rfl) ?_
    refine Run.a (Val.of rfl) ?_
    refine Run.sk ?_
    refine Run.sk ?_
    refine Run.sk ?_
    refine Run.sk ?_
    refine Run.sk ?_
    refine Run.a (Val.of rfl) ?_
    refine Run.nil (RQ.next ?_)
    (repeat refine RC.seq ?_); refine RC.condT rfl rfl ?_
    (repeat refine RC.seq ?_); refine RC.region ?_
    refine Run.a (Val.of rfl) ?_
    refine Run.nil (RQ.next ?_)
    refine RC.ret ?_; (repeat first | refine RQ.thenRet ?_ | refine RQ.blockRet ?_); exact RQ.ret1 rfl (Res.tmp rfl) fun w' hm => ⟨rfl, hm.fr⟩
  by_cases h4 : ln < 2
  · rw [mayP_time (by omega)]
    (repeat refine RC.seq ?_); refine RC.region ?_
    refine Run.a (Val.fieldAddr tabOk rfl rfl rfl rfl rfl rfl rfl rfl) ?_
    refine Run.a (Val.load (v := .slice va l.length vc) tabOk rfl rfl rfl m0 rfl) ?_
    refine Run.a (Val.len (len := l.length) tabOk rfl rfl rfl rfl) ?_
    refine Run.a (Val.eq (Val.of rfl) (show _ = Value.bool false from congrArg Value.bool (decide_eq_false (by omega)))) ?_
    refine Run.a (Val.of rfl) ?_
    refine Run.a (Val.fieldAddr tabOk rfl rfl rfl rfl rfl rfl rfl rfl) ?_
    refine Run.a (Val.load (v := .slice va l.length vc) tabOk rfl rfl rfl m0 rfl) ?_
    refine Run.a (Val.len (len := l.length) tabOk rfl rfl rfl rfl) ?_
    refine Run.a (Val.eq (Val.of rfl) (show _ = Value.bool false from congrArg Value.bool (decide_eq_false (by omega)))) ?_
    refine Run.a (Val.of rfl) ?_
    refine Run.a (Val.of rfl) ?_
    refine Run.a (Val.fieldAddr tabOk rfl rfl rfl rfl rfl rfl rfl rfl) ?_
    refine Run.a (Val.load (v := .int .i64 nd) tabOk rfl rfl rfl m0 rfl) ?_
    refine Run.a (Val.eq (Val.of rfl) (show _ = Value.bool false from congrArg Value.bool (decide_eq_false (by omega)))) ?_
    refine Run.a (Val.of rfl) ?_
    refine Run.a (Val.of rfl) ?_
    refine Run.a (Val.fieldAddr tabOk rfl rfl rfl rfl rfl rfl rfl rfl) ?_
    refine Run.a (Val.load (v := .int .i64 nd) tabOk rfl rfl rfl m0 rfl) ?_
    refine Run.a (Val.fieldAddr tabOk rfl rfl rfl rfl rfl rfl rfl rfl) ?_
    refine Run.a (Val.load (v := .slice va l.length vc) tabOk rfl rfl rfl m0 rfl) ?_
    refine Run.a (Val.len (len := l.length) tabOk rfl rfl rfl rfl) ?_
    refine Run.a (Val.eq (Val.of rfl) (show _ = Value.bool false from congrArg Value.bool (decide_eq_false (by omega)))) ?_
    refine Run.a (Val.of rfl) ?_
    refine Run.a (Val.of rfl) ?_
    refine Run.a (Val.fieldAddr tabOk rfl rfl rfl rfl rfl rfl rfl rfl) ?_
    refine Run.a (Val.load (v := .int .i64 ln) tabOk rfl rfl rfl m0 rfl) ?_
    refine Run.a (Val.eq (Val.of rfl) (show _ = Value.bool true from congrArg Value.bool (decide_eq_true (by omega)))) ?_
    refine Run.a (Val.of rfl) ?_
    refine Run.a (Val.of rfl) ?_
    refine Run.sk ?_
    refine Run.sk ?_
    refine Run.sk ?_
    refine Run.a (Val.of rfl) ?_
    refine Run.a (Val.of rfl) ?_
    refine Run.sk ?_
    refine Run.sk ?_
    refine Run.sk ?_
    refine Run.a (Val.of rfl) ?_
    refine Run.a (Val.of rfl) ?_
    refine Run.sk ?_
    refine Run.sk ?_
    refine Run.sk ?_
    refine Run.sk ?_
    refine Run.sk ?_
    refine Run.a (Val.of rfl) ?_
    refine Run.nil (RQ.next ?_)
    (repeat refine RC.seq ?_); refine RC.condT rfl rfl ?_
    (repeat refine RC.seq ?_); refine RC.region ?_
    refine Run.a (Val.of rfl) ?_
    refine Run.nil (RQ.next ?_)
    refine RC.ret ?_; (repeat first | refine RQ.thenRet ?_ | refine RQ.blockRet ?_); exact RQ.ret1 rfl (Res.tmp rfl) fun w' hm => ⟨rfl, hm.fr⟩
  by_cases h5 : 64 < ln
  · rw [mayP_time (by omega)]
    (repeat refine RC.seq ?_); refine RC.region ?_
    refine Run.a (Val.fieldAddr tabOk rfl rfl rfl rfl rfl rfl rfl rfl) ?_
    refine Run.a (Val.load (v := .slice va l.length vc) tabOk rfl rfl rfl m0 rfl) ?_
    refine Run.a (Val.len (len := l.length) tabOk rfl rfl rfl rfl) ?_
    refine Run.a (Val.eq (Val.of rfl) (show _ = Value.bool false from congrArg Value.bool (decide_eq_false (by omega)))) ?_
    refine Run.a (Val.of rfl) ?_
    refine Run.a (Val.fieldAddr tabOk rfl rfl rfl rfl rfl rfl rfl rfl) ?_
    refine Run.a (Val.load (v := .slice va l.length vc) tabOk rfl rfl rfl m0 rfl) ?_
    refine Run.a (Val.len (len := l.length) tabOk rfl rfl rfl rfl) ?_
    refine Run.a (Val.eq (Val.of rfl) (show _ = Value.bool false from congrArg Value.bool (decide_eq_false (by omega)))) ?_
    refine Run.a (Val.of rfl) ?_
    refine Run.a (Val.of rfl) ?_
    refine Run.a (Val.fieldAddr tabOk rfl rfl rfl rfl rfl rfl rfl rfl) ?_
    refine Run.a (Val.load (v := .int .i64 nd) tabOk rfl rfl rfl m0 rfl) ?_
    refine Run.a (Val.eq (Val.of rfl) (show _ = Value.bool false from congrArg Value.bool (decide_eq_false (by omega)))) ?_
    refine Run.a (Val.of rfl) ?_
    refine Run.a (Val.of rfl) ?_
    refine Run.a (Val.fieldAddr tabOk rfl rfl rfl rfl rfl rfl rfl rfl) ?_
    refine Run.a (Val.load (v := .int .i64 nd) tabOk rfl rfl rfl m0 rfl) ?_
    refine Run.a (Val.fieldAddr tabOk rfl rfl rfl rfl rfl rfl rfl rfl) ?_
    refine Run.a (Val.load (v := .slice va l.length vc) tabOk rfl rfl rfl m0 rfl) ?_
    refine Run.a (Val.len (len := l.length) tabOk rfl rfl rfl rfl) ?_
    refine Run.a (Val.eq (Val.of rfl) (show _ = Value.bool false from congrArg Value.bool (decide_eq_false (by omega)))) ?_
    refine Run.a (Val.of rfl) ?_
    refine Run.a (Val.of rfl) ?_
    refine Run.a (Val.fieldAddr tabOk rfl rfl rfl rfl rfl rfl rfl rfl) ?_
    refine Run.a (Val.load (v := .int .i64 ln) tabOk rfl rfl rfl m0 rfl) ?_
    refine Run.a (Val.eq (Val.of rfl) (show _ = Value.bool false from congrArg Value.bool (decide_eq_false (by omega)))) ?_
    refine Run.a (Val.of rfl) ?_
    refine Run.a (Val.of rfl) ?_
    refine Run.a (Val.fieldAddr tabOk rfl rfl rfl rfl rfl rfl rfl rfl) ?_
    refine Run.a (Val.load (v := .int .i64 ln) tabOk rfl rfl rfl m0 rfl) ?_
    refine Run.a (Val.eq (Val.of rfl) (show _ = Value.bool true from congrArg Value.bool (decide_eq_true (by omega)))) ?_
    refine Run.a (Val.of rfl) ?_
    refine Run.a (Val.of rfl) ?_
    refine Run.sk ?_
    refine Run.sk ?_
    refine Run.sk ?_
    refine Run.a (Val.of rfl) ?_
    refine Run.a (Val.of rfl) ?_
    refine Run.sk ?_
    refine Run.sk ?_
    refine Run.sk ?_
    refine Run.sk ?_
    refine Run.sk ?_
    refine Run.a (Val.of rfl) ?_
    refine Run.nil (RQ.next ?_)
    (repeat refine RC.seq ?_); refine RC.condT rfl rfl ?_
    (repeat refine RC.seq ?_); refine RC.region ?_
    refine Run.a (Val.of rfl) ?_
    refine Run.nil (RQ.next ?_)
    refine RC.ret ?_; (repeat first | refine RQ.thenRet ?_ | refine RQ.blockRet ?_); exact RQ.ret1 rfl (Res.tmp rfl) fun w' hm => ⟨rfl, hm.fr⟩
  by_cases h6 : wd < 1
  · rw [mayP_time (by omega)]
    (repeat refine RC.seq ?_); refine RC.region ?_
    refine Run.a (Val.fieldAddr tabOk rfl rfl rfl rfl rfl rfl rfl rfl) ?_
    refine Run.a (Val.load (v := .slice va l.length vc) tabOk rfl rfl rfl m0 rfl) ?_
    refine Run.a (Val.len (len := l.length) tabOk rfl rfl rfl rfl) ?_
    refine Run.a (Val.eq (Val.of rfl) (show _ = Value.bool false from congrArg Value.bool (decide_eq_false (by omega)))) ?_
    refine Run.a (Val.of rfl) ?_
    refine Run.a (Val.fieldAddr tabOk rfl rfl rfl rfl rfl rfl rfl rfl) ?_
    refine Run.a (Val.load (v := .slice va l.length vc) tabOk rfl rfl rfl m0 rfl) ?_
    refine Run.a (Val.len (len := l.length) tabOk rfl rfl rfl rfl) ?_
    refine Run.a (Val.eq (Val.of rfl) (show _ = Value.bool false from congrArg Value.bool (decide_eq_false (by omega)))) ?_
    refine Run.a (Val.of rfl) ?_
    refine Run.a (Val.of rfl) ?_
    refine Run.a (Val.fieldAddr tabOk rfl rfl rfl rfl rfl rfl rfl rfl) ?_
    refine Run.a (Val.load (v := .int .i64 nd) tabOk rfl rfl rfl m0 rfl) ?_
    refine Run.a (Val.eq (Val.of rfl) (show _ = Value.bool false from congrArg Value.bool (decide_eq_false (by omega)))) ?_
    refine Run.a (Val.of rfl) ?_
    refine Run.a (Val.of rfl) ?_
    refine Run.a (Val.fieldAddr tabOk rfl rfl rfl rfl rfl rfl rfl rfl) ?_
    refine Run.a (Val.load (v := .int .i64 nd) tabOk rfl rfl rfl m0 rfl) ?_
    refine Run.a (Val.fieldAddr tabOk rfl rfl rfl rfl rfl rfl rfl rfl) ?_
    refine Run.a (Val.load (v := .slice va l.length vc) tabOk rfl rfl rfl m0 rfl) ?_
    refine Run.a (Val.len (len := l.length) tabOk rfl rfl rfl rfl) ?_
    refine Run.a (Val.eq (Val.of rfl) (show _ = Value.bool false from congrArg Value.bool (decide_eq_false (by omega)))) ?_
    refine Run.a (Val.of rfl) ?_
    refine Run.a (Val.of rfl) ?_
    refine Run.a (Val.fieldAddr tabOk rfl rfl rfl rfl rfl rfl rfl rfl) ?_
    refine Run.a (Val.load (v := .int .i64 ln) tabOk rfl rfl rfl m0 rfl) ?_
    refine Run.a (Val.eq (Val.of rfl) (show _ = Value.bool false from congrArg Value.bool (decide_eq_false (by omega)))) ?_
    refine Run.a (Val.of rfl) ?_
    refine Run.a (Val.of rfl) ?_
    refine Run.a (Val.fieldAddr tabOk rfl rfl rfl rfl rfl rfl rfl rfl) ?_
    refine Run.a (Val.load (v := .int .i64 ln) tabOk rfl rfl rfl m0 rfl) ?_
    refine Run.a (Val.eq (Val.of rfl) (show _ = Value.bool false from congrArg Value.bool (decide_eq_false (by omega)))) ?_
    refine Run.a (Val.of rfl) ?_
    refine Run.a (Val.of rfl) ?_
    refine Run.a (Val.fieldAddr tabOk rfl rfl rfl rfl rfl rfl rfl rfl) ?_
    refine Run.a (Val.load (v := .int .i64 wd) tabOk rfl rfl rfl m0 rfl) ?_
    refine Run.a (Val.eq (Val.of rfl) (show _ = Value.bool true from congrArg Value.bool (decide_eq_true (by omega)))) ?_
    refine Run.a (Val.of rfl) ?_
    refine Run.a (Val.of rfl) ?_
    refine Run.sk ?_
    refine Run.sk ?_
    refine Run.sk ?_
    refine Run.sk ?_
    refine Run.sk ?_
    refine Run.a (Val.of rfl) ?_
    refine Run.nil (RQ.next ?_)
    (repeat refine RC.seq ?_); refine RC.condT rfl rfl ?_
    (repeat refine RC.seq ?_); refine RC.region ?_
    refine Run.a (Val.of rfl) ?_
    refine Run.nil (RQ.next ?_)
    refine RC.ret ?_; (repeat first | refine RQ.thenRet ?_ | refine RQ.blockRet ?_); exact RQ.ret1 rfl (Res.tmp rfl) fun w' hm => ⟨rfl, hm.fr⟩
  by_cases h7 : ln < wd
  · rw [mayP_time (by omega)]
    (repeat refine RC.seq ?_); refine RC.region ?_
    refine Run.a (Val.fieldAddr tabOk rfl rfl rfl rfl rfl rfl rfl rfl) ?_
    refine Run.a (Val.load (v := .slice va l.length vc) tabOk rfl rfl rfl m0 rfl) ?_
    refine Run.a (Val.len (len := l.length) tabOk rfl rfl rfl rfl) ?_
    refine Run.a (Val.eq (Val.of rfl) (show _ = Value.bool false from congrArg Value.bool (decide_eq_false (by omega)))) ?_
    refine Run.a (Val.of rfl) ?_
    refine Run.a (Val.fieldAddr tabOk rfl rfl rfl rfl rfl rfl rfl rfl) ?_
    refine Run.a (Val.load (v := .slice va l.length vc) tabOk rfl rfl rfl m0 rfl) ?_
    refine Run.a (Val.len (len := l.length) tabOk rfl rfl rfl rfl) ?_
    refine Run.a (Val.eq (Val.of rfl) (show _ = Value.bool false from congrArg Value.bool (decide_eq_false (by omega)))) ?_
    refine Run.a (Val.of rfl) ?_
    refine Run.a (Val.of rfl) ?_
    refine Run.a (Val.fieldAddr tabOk rfl rfl rfl rfl rfl rfl rfl rfl) ?_
    refine Run.a (Val.load (v := .int .i64 nd) tabOk rfl rfl rfl m0 rfl) ?_
    refine Run.a (Val.eq (Val.of rfl) (show _ = Value.bool false from congrArg Value.bool (decide_eq_false (by omega)))) ?_
    refine Run.a (Val.of rfl) ?_
    refine Run.a (Val.of rfl) ?_
    refine Run.a (Val.fieldAddr tabOk rfl rfl rfl rfl rfl rfl rfl rfl) ?_
    refine Run.a (Val.load (v := .int .i64 nd) tabOk rfl rfl rfl m0 rfl) ?_
    refine Run.a (Val.fieldAddr tabOk rfl rfl rfl rfl rfl rfl rfl rfl) ?_
    refine Run.a (Val.load (v := .slice va l.length vc) tabOk rfl rfl rfl m0 rfl) ?_
    refine Run.a (Val.len (len := l.length) tabOk rfl rfl rfl rfl) ?_
    refine Run.a (Val.eq (Val.of rfl) (show _ = Value.bool false from congrArg Value.bool (decide_eq_false (by omega)))) ?_
    refine Run.a (Val.of rfl) ?_
    refine Run.a (Val.of rfl) ?_
    refine Run.a (Val.fieldAddr tabOk rfl rfl rfl rfl rfl rfl rfl rfl) ?_
    refine Run.a (Val.load (v := .int .i64 ln) tabOk rfl rfl rfl m0 rfl) ?_
    refine Run.a (Val.eq (Val.of rfl) (show _ = Value.bool false from congrArg Value.bool (decide_eq_false (by omega)))) ?_
    refine Run.a (Val.of rfl) ?_
    refine Run.a (Val.of rfl) ?_
    refine Run.a (Val.fieldAddr tabOk rfl rfl rfl rfl rfl rfl rfl rfl) ?_
    refine Run.a (Val.load (v := .int .i64 ln) tabOk rfl rfl rfl m0 rfl) ?_
    refine Run.a (Val.eq (Val.of rfl) (show _ = Value.bool false from congrArg Value.bool (decide_eq_false (by omega)))) ?_
    refine Run.a (Val.of rfl) ?_
    refine Run.a (Val.of rfl) ?_
    refine Run.a (Val.fieldAddr tabOk rfl rfl rfl rfl rfl rfl rfl rfl) ?_
    refine Run.a (Val.load (v := .int .i64 wd) tabOk rfl rfl rfl m0 rfl) ?_
    refine Run.a (Val.eq (Val.of rfl) (show _ = Value.bool false from congrArg Value.bool (decide_eq_false (by omega)))) ?_
    refine Run.a (Val.of rfl) ?_
    refine Run.a (Val.of rfl) ?_
    refine Run.a (Val.fieldAddr tabOk rfl rfl rfl rfl rfl rfl rfl rfl) ?_
    refine Run.a (Val.load (v := .int .i64 wd) tabOk rfl rfl rfl m0 rfl) ?_
    refine Run.a (Val.fieldAddr tabOk rfl rfl rfl rfl rfl rfl rfl rfl) ?_
    refine Run.a (Val.load (v := .int .i64 ln) tabOk rfl rfl rfl m0 rfl) ?_
    refine Run.a (Val.eq (Val.of rfl) (show _ = Value.bool true from congrArg Value.bool (decide_eq_true (by omega)))) ?_
    refine Run.a (Val.of rfl) ?_
    refine Run.nil (RQ.next ?_)
    (repeat refine RC.seq ?_); refine RC.condT rfl rfl ?_
    (repeat refine RC.seq ?_); refine RC.region ?_
    refine Run.a (Val.of rfl) ?_
    refine Run.nil (RQ.next ?_)
    refine RC.ret ?_; (repeat first | refine RQ.thenRet ?_ | refine RQ.blockRet ?_); exact RQ.ret1 rfl (Res.tmp rfl) fun w' hm => ⟨rfl, hm.fr⟩
  (repeat refine RC.seq ?_); refine RC.region ?_
  refine Run.a (Val.fieldAddr tabOk rfl rfl rfl rfl rfl rfl rfl rfl) ?_
  refine Run.a (Val.load (v := .slice va l.length vc) tabOk rfl rfl rfl m0 rfl) ?_
  refine Run.a (Val.len (len := l.length) tabOk rfl rfl rfl rfl) ?_
  refine Run.a (Val.eq (Val.of rfl) (show _ = Value.bool false from congrArg Value.bool (decide_eq_false (by omega)))) ?_
  refine Run.a (Val.of rfl) ?_
  refine Run.a (Val.fieldAddr tabOk rfl rfl rfl rfl rfl rfl rfl rfl) ?_
  refine Run.a (Val.load (v := .slice va l.length vc) tabOk rfl rfl rfl m0 rfl) ?_
  refine Run.a (Val.len (len := l.length) tabOk rfl rfl rfl rfl) ?_
  refine Run.a (Val.eq (Val.of rfl) (show _ = Value.bool false from congrArg Value.bool (decide_eq_false (by omega)))) ?_
  refine Run.a (Val.of rfl) ?_
  refine Run.a (Val.of rfl) ?_
  refine Run.a (Val.fieldAddr tabOk rfl rfl rfl rfl rfl rfl rfl rfl) ?_
  refine Run.a (Val.load (v := .int .i64 nd) tabOk rfl rfl rfl m0 rfl) ?_
  refine Run.a (Val.eq (Val.of rfl) (show _ = Value.bool false from congrArg Value.bool (decide_eq_false (by omega)))) ?_
  refine Run.a (Val.of rfl) ?_
  refine Run.a (Val.of rfl) ?_
  refine Run.a (Val.fieldAddr tabOk rfl rfl rfl rfl rfl rfl rfl rfl) ?_
  refine Run.a (Val.load (v := .int .i64 nd) tabOk rfl rfl rfl m0 rfl) ?_
  refine Run.a (Val.fieldAddr tabOk rfl rfl rfl rfl rfl rfl rfl rfl) ?_
  refine Run.a (Val.load (v := .slice va l.length vc) tabOk rfl rfl rfl m0 rfl) ?_
  refine Run.a (Val.len (len := l.length) tabOk rfl rfl rfl rfl) ?_
  refine Run.a (Val.eq (Val.of rfl) (show _ = Value.bool false from congrArg Value.bool (decide_eq_false (by omega)))) ?_
  refine Run.a (Val.of rfl) ?_
  refine Run.a (Val.of rfl) ?_
  refine Run.a (Val.fieldAddr tabOk rfl rfl rfl rfl rfl rfl rfl rfl) ?_
  refine Run.a (Val.load (v := .int .i64 ln) tabOk rfl rfl rfl m0 rfl) ?_
  refine Run.a (Val.eq (Val.of rfl) (show _ = Value.bool false from congrArg Value.bool (decide_eq_false (by omega)))) ?_
  refine Run.a (Val.of rfl) ?_
  refine Run.a (Val.of rfl) ?_
  refine Run.a (Val.fieldAddr tabOk rfl rfl rfl rfl rfl rfl rfl rfl) ?_
  refine Run.a (Val.load (v := .int .i64 ln) tabOk rfl rfl rfl m0 rfl) ?_
  refine Run.a (Val.eq (Val.of rfl) (show _ = Value.bool false from congrArg Value.bool (decide_eq_false (by omega)))) ?_
  refine Run.a (Val.of rfl) ?_
  refine Run.a (Val.of rfl) ?_
  refine Run.a (Val.fieldAddr tabOk rfl rfl rfl rfl rfl rfl rfl rfl) ?_
  refine Run.a (Val.load (v := .int .i64 wd) tabOk rfl rfl rfl m0 rfl) ?_
  refine Run.a (Val.eq (Val.of rfl) (show _ = Value.bool false from congrArg Value.bool (decide_eq_false (by omega)))) ?_
  refine Run.a (Val.of rfl) ?_
  refine Run.a (Val.of rfl) ?_
  refine Run.a (Val.fieldAddr tabOk rfl rfl rfl rfl rfl rfl rfl rfl) ?_
  refine Run.a (Val.load (v := .int .i64 wd) tabOk rfl rfl rfl m0 rfl) ?_
  refine Run.a (Val.fieldAddr tabOk rfl rfl rfl rfl rfl rfl rfl rfl) ?_
  refine Run.a (Val.load (v := .int .i64 ln) tabOk rfl rfl rfl m0 rfl) ?_
  refine Run.a (Val.eq (Val.of rfl) (show _ = Value.bool false from congrArg Value.bool (decide_eq_false (by omega)))) ?_
  refine Run.a (Val.of rfl) ?_
  refine Run.nil (RQ.next ?_)
  (repeat refine RC.seq ?_); refine RC.condF rfl rfl (RC.skip (RQ.next ?_))
  have hcond : 1 ≤ l.length ∧ l.length ≤ 5 ∧ 1 ≤ nd ∧ nd ≤ l.length := by omega
  obtain ⟨ad, c, hv, hc, hcl, hr⟩ := hs.pos (by omega)
  cases hv
  (repeat refine RC.seq ?_); refine RC.region ?_
  refine Run.a (Val.of rfl) ?_
  refine Run.nil (RQ.next ?_)
  (repeat refine RC.seq ?_); refine RC.block ?_
  refine RC.up l.length (D := Unit) (fun i _ => zero8 ∉ l.take i ∧ (l.take i).Nodup) (fun i _ => [(3, .int .i64 i), (1, .pointer (some ⟨b1, 0, none⟩))])
    (fun _ _ => [(b1, .cells (prm ln wd nd (.slice (some ad) l.length vc)).toArray 43 (0, 0))]) 0 () (Nat.zero_le _) (by simp) ⟨rfl, rfl, trivial⟩ (List.Sublist.refl _) ?_
  intro i _ hi hok
  (repeat refine RC.seq ?_); refine RC.region ?_
  refine Run.a (Val.of rfl) ?_
  refine Run.a (Val.fieldAddr tabOk rfl rfl rfl rfl rfl rfl rfl rfl) ?_
  refine Run.a (Val.load (v := .slice (some ad) l.length vc) tabOk rfl rfl rfl m0 rfl) ?_
  refine Run.a (Val.len (len := l.length) tabOk rfl rfl rfl rfl) ?_
  refine Run.a (Val.of rfl) ?_
  refine Run.nil (RQ.next ?_)
  (repeat refine RC.seq ?_); refine RC.wh rfl (fun h => RQ.next ?_) (fun h => ?_)
  · have hi' : i < l.length := by have := of_decide_eq_true h; omega
    clear h
    obtain ⟨y, hy⟩ : ∃ y, l[i]? = some y := ⟨_, List.getElem?_eq_getElem hi'⟩
    have hy8 := hH y (List.mem_of_getElem? hy)
    have hload := hashAt hH hr hy
    (repeat refine RC.seq ?_); refine RC.block ?_
    (repeat refine RC.seq ?_); refine RC.region ?_
    refine Run.a (Val.of rfl) ?_
    refine Run.nil (RQ.next ?_)
    (repeat refine RC.seq ?_); refine RC.block ?_
    refine RC.up i (D := Unit) (fun j _ => y ∉ l.take j) (fun j _ => [(4, .int .i64 j), (3, .int .i64 i), (1, .pointer (some ⟨b1, 0, none⟩))])
      (fun _ _ => [(b1, .cells (prm ln wd nd (.slice (some ad) l.length vc)).toArray 43 (0, 0))]) 0 () (Nat.zero_le _) (by simp) ⟨rfl, rfl, rfl, trivial⟩ (List.Sublist.refl _) ?_
    intro j _ hj hno
    (repeat refine RC.seq ?_); refine RC.region ?_
    refine Run.a (Val.of rfl) ?_
    refine Run.a (Val.of rfl) ?_
    refine Run.a (Val.of rfl) ?_
    refine Run.nil (RQ.next ?_)
    (repeat refine RC.seq ?_); refine RC.wh rfl (fun h => RQ.next ?_) (fun h => ?_)
    · have hj' : j < i := by have := of_decide_eq_true h; omega
      clear h
      obtain ⟨x, hx⟩ : ∃ x, l[j]? = some x := ⟨_, List.getElem?_eq_getElem (by omega)⟩
      have hx8 := hH x (List.mem_of_getElem? hx)
      have hload2 := hashAt hH hr hx
      (repeat refine RC.seq ?_); refine RC.block ?_
      (repeat refine RC.seq ?_); refine RC.drawS mixed (N := 11) rfl ?_
      refine DR.t 0 rfl (Val.fieldAddr tabOk rfl rfl rfl rfl rfl rfl rfl rfl) ?_
      refine DR.t 1 rfl (Val.load (v := .slice (some ad) l.length vc) tabOk rfl rfl rfl m0 rfl) ?_
      refine DR.t 2 rfl (Val.of rfl) ?_
      refine DR.t 3 rfl (Val.ixS tabOk j (ad' := ad.add (j * 8)) rfl rfl rfl rfl rfl rfl rfl (by omega) rfl) ?_
      refine DR.t 4 rfl (Val.loadOld tabOk (cs := u8s x) rfl rfl rfl rfl (by simp) (by rw [u8s_len, hx8.1]; rfl) hload2) ?_
      refine DR.t 5 rfl (Val.fieldAddr tabOk rfl rfl rfl rfl rfl rfl rfl rfl) ?_
      refine DR.t 6 rfl (Val.load (v := .slice (some ad) l.length vc) tabOk rfl rfl rfl m0 rfl) ?_
      refine DR.t 7 rfl (Val.of rfl) ?_
      refine DR.t 8 rfl (Val.ixS tabOk i (ad' := ad.add (i * 8)) rfl rfl rfl rfl rfl rfl rfl (by omega) rfl) ?_
      refine DR.t 9 rfl (Val.loadOld tabOk (cs := u8s y) rfl rfl rfl rfl (by simp) (by rw [u8s_len, hy8.1]; rfl) hload) ?_
      refine DR.t 10 rfl (Val.eqU (m := 8) (a := x) (b := y) tabOk rfl rfl rfl (by kernel_rfl) (by kernel_rfl) rfl rfl hx8.1 hy8.1) ?_
      refine DR.done (by kernel_rfl) (RQ.next ?_)
      (repeat refine RC.seq ?_); refine RC.cond rfl (fun h => ?_) (fun h => ?_)
      · have h1 := of_decide_eq_true h
        have hin : y ∈ l.take i := by
          rw [← h1]
          exact List.mem_of_getElem? (i := j) (by rw [List.getElem?_take, if_pos hj', hx])
        rw [mayP_keys (kOk_bad hy (.inr hin))]
        (repeat refine RC.seq ?_); refine RC.region ?_
        refine Run.a (Val.of rfl) ?_
        refine Run.nil (RQ.next ?_)
        refine RC.ret ?_; (repeat first | refine RQ.thenRet ?_ | refine RQ.blockRet ?_); exact RQ.ret1 rfl (Res.tmp rfl) fun w' hm => ⟨rfl, hm.fr⟩
      · have h1 := of_decide_eq_false h
        refine RC.skip (RQ.blockNormal (RQ.next ?_))
        refine RC.region ?_
        repeat (first | refine Run.a Val.ra ?_ | refine Run.a (Val.of rfl) ?_)
        refine Run.nil (RQ.up (j + 1) () (Nat.lt_succ_self _) hj' ?_ ⟨rfl, rfl, rfl, trivial⟩ (List.Sublist.refl _))
        rw [List.take_add_one, hx]
        simp only [List.mem_append, not_or]
        exact ⟨hno, by simpa using fun e => h1 e.symm⟩
    · have hj' : j = i := by have := of_decide_eq_false h; omega
      subst hj'
      (repeat refine RQ.thenExit ?_); refine RQ.blockHere ?_
      refine RQ.next ?_
      (repeat refine RC.seq ?_); refine RC.region ?_
      refine Run.a (Val.fieldAddr tabOk rfl rfl rfl rfl rfl rfl rfl rfl) ?_
      refine Run.a (Val.load (v := .slice (some ad) l.length vc) tabOk rfl rfl rfl m0 rfl) ?_
      refine Run.a (Val.of rfl) ?_
      refine Run.a (Val.ixS tabOk j (ad' := ad.add (j * 8)) rfl rfl rfl rfl rfl rfl rfl (by omega) rfl) ?_
      refine Run.a (Val.loadOld tabOk (cs := u8s y) rfl rfl rfl rfl (by simp) (by rw [u8s_len, hy8.1]; rfl) hload) ?_
      refine Run.callV Tryz.func64 rfl rfl rfl rfl rfl rfl rfl (fun w' hm => ref_Zero_calls y hy8.1 w') ?_
      refine Run.nil (RQ.next ?_)
      (repeat refine RC.seq ?_); refine RC.cond rfl (fun h => ?_) (fun h => ?_)
      · have h1 := of_decide_eq_true h
        rw [mayP_keys (kOk_bad hy (.inl h1))]
        (repeat refine RC.seq ?_); refine RC.region ?_
        refine Run.a (Val.of rfl) ?_
        refine Run.nil (RQ.next ?_)
        refine RC.ret ?_; (repeat first | refine RQ.thenRet ?_ | refine RQ.blockRet ?_); exact RQ.ret1 rfl (Res.tmp rfl) fun w' hm => ⟨rfl, hm.fr⟩
      · have h1 := of_decide_eq_false h
        refine RC.skip (RQ.blockNormal (RQ.next ?_))
        refine RC.region ?_
        repeat (first | refine Run.a Val.ra ?_ | refine Run.a (Val.of rfl) ?_)
        exact Run.nil (RQ.up (j + 1) () (Nat.lt_succ_self _) hi' (kOk_step hy hok h1 hno) ⟨rfl, rfl, trivial⟩ (List.Sublist.refl _))
  · have hi' : i = l.length := by have := of_decide_eq_false h; omega
    subst hi'
    have hk := kOk_good hok
    rw [mayP_good hcond hk (by omega)]
    (repeat refine RQ.thenExit ?_); refine RQ.blockHere ?_
    refine RQ.next ?_
    (repeat refine RC.seq ?_); refine RC.region ?_
    refine Run.a (Val.of rfl) ?_
    refine Run.nil (RQ.next ?_)
    refine RC.ret ?_; (repeat first | refine RQ.thenRet ?_ | refine RQ.blockRet ?_); exact RQ.ret1 rfl (Res.tmp rfl) fun w' hm => ⟨rfl, hm.fr⟩
end Go.Proofs.YtkkfaffehbjdgaaGreatDoor

/- quorum's law: Seed, Made, Signed. -/
namespace Go.Sha
/-- The seed of a certifier. -/
def seedQ (k : Int) : List Nat := [113, (k % 256).toNat, 0, 0, 0, 0, 0, 0]
theorem seedQ_lt (k : Int) : ∀ x ∈ seedQ k, x < 256 := by
  intro x hx
  simp only [seedQ, List.mem_cons, List.not_mem_nil, or_false] at hx
  omega
/-- The keys of the first m certifiers. -/
def certs (m : Nat) : List (List Nat) := (List.range m).map fun k : Nat => treeOf (seedQ k)
theorem certs_len (m : Nat) : (certs m).length = m := by simp [certs]
theorem certs_succ (m : Nat) : certs (m + 1) = certs m ++ [treeOf (seedQ m)] := by simp [certs, List.range_succ]
theorem certs_HL (m : Nat) : HL (certs m) := by
  intro h hh
  simp only [certs, List.mem_map] at hh
  obtain ⟨k, _, rfl⟩ := hh
  exact ⟨treeOf_len _, treeOf_lt _⟩
theorem certs_at {m k : Nat} (h : k < m) : (certs m)[k]? = some (treeOf (seedQ k)) := by simp [certs, h]
/-- A signature with its key's number. -/
structure Sg where
  key : Int
  z : Int
  op : List Nat
  sh : List Nat
  pa : List Nat
  h1 : op.length = 128
  h1' : ∀ x ∈ op, x < 256
  h2 : sh.length = 128
  h2' : ∀ x ∈ sh, x < 256
  h3 : pa.length = 24
  h3' : ∀ x ∈ pa, x < 256
def Sg.c (s : Sg) : List Go.Value := .int .i64 s.key :: sigC s.z s.op s.sh s.pa
theorem Sg.len (s : Sg) : s.c.length = 282 := by
  unfold Sg.c
  rw [List.length_cons, sigC_len s.h1 s.h2 s.h3]
theorem Sg.one (s : Sg) : ∀ u ∈ s.c, u.oneCell' = true := by
  intro u hu
  rcases List.mem_cons.1 hu with rfl | hu
  · rfl
  · exact sigC_one u hu
def rowSg (l : List Sg) : List Go.Value := (l.map Sg.c).flatten
theorem rowSg_app (a b : List Sg) : rowSg (a ++ b) = rowSg a ++ rowSg b := by simp [rowSg]
theorem rowSg_len : ∀ (l : List Sg), (rowSg l).length = l.length * 282
  | [] => rfl
  | s :: l => by
    have := rowSg_len l
    unfold rowSg at this ⊢
    rw [List.map_cons, List.flatten_cons, List.length_append, this, s.len, List.length_cons, Nat.add_mul]
    omega
theorem rowSg_at {l : List Sg} {i : Nat} {s : Sg} (h : l[i]? = some s) : ∀ j u, s.c[j]? = some u → (rowSg l)[i * 282 + j]? = some u := by
  intro j u hj
  have hi := (List.getElem?_eq_some_iff.1 h).1
  have e : l = l.take i ++ (s :: l.drop (i + 1)) := by
    have h2 := (List.getElem?_eq_some_iff.1 h).2
    conv => lhs; rw [← List.take_append_drop i l, List.drop_eq_getElem_cons hi, h2]
  rw [e, rowSg_app, List.getElem?_append_right (by rw [rowSg_len, List.length_take]; have : min i l.length = i := by omega
                                                   rw [this]; omega), rowSg_len, List.length_take, Nat.min_eq_left (by omega), Nat.add_sub_cancel_left]
  unfold rowSg
  rw [List.map_cons, List.flatten_cons, List.getElem?_append_left (List.getElem?_eq_some_iff.1 hj).1]
  exact hj
/-- The message that is signed at a place: bent or not. -/
def bend (m : List Nat) : List Nat := [Nat.xor (m.getD 0 0) 1] ++ m.drop 1
def msgQ (m : List Nat) (bent : List Bool) (i : Nat) : List Nat := if bent.getD i false = true then bend m else m
theorem bend_len {m : List Nat} (h : m.length = 8) : (bend m).length = 8 := by unfold bend; simp [h]
theorem bend_lt {m : List Nat} (h : ∀ x ∈ m, x < 256) : ∀ x ∈ bend m, x < 256 := by
  intro x hx
  rcases List.mem_append.1 hx with hx | hx
  · rw [List.mem_singleton] at hx
    subst hx
    have h0 : m.getD 0 0 < 2 ^ 8 := by
      cases m with
      | nil => decide
      | cons a m => exact h a List.mem_cons_self
    exact Nat.xor_lt_two_pow h0 (by decide)
  · exact h x (List.mem_of_mem_drop hx)
theorem msgQ_len {m : List Nat} (h : m.length = 8) (bent : List Bool) (i : Nat) : (msgQ m bent i).length = 8 := by unfold msgQ; split; exact bend_len h; exact h
theorem msgQ_lt {m : List Nat} (h : ∀ x ∈ m, x < 256) (bent : List Bool) (i : Nat) : ∀ x ∈ msgQ m bent i, x < 256 := by unfold msgQ; split; exact bend_lt h; exact h
theorem msgQ_nil (m : List Nat) (i : Nat) : msgQ m [] i = m := by unfold msgQ; rw [if_neg (by simp)]
/-- What one signs. -/
def sgOne (m : List Nat) (who : List Int) (bent : List Bool) (i : Nat) : Sg where
  key := who.getD i 0
  z := ((i % 8 : Nat) : Int)
  op := rowOf (opened (seedQ (who.getD i 0)) (i % 8) (msgQ m bent i)) 16
  sh := rowOf (shutd (seedQ (who.getD i 0)) (i % 8) (msgQ m bent i)) 16
  pa := (wayOf (seedQ (who.getD i 0)) (i % 8)).flatten
  h1 := rowOf_len (opened_len _ _ _) 16
  h1' := rowOf_lt (opened_lt _ _ _) 16
  h2 := rowOf_len (shutd_len _ _ _) 16
  h2' := rowOf_lt (shutd_lt _ _ _) 16
  h3 := wayOf_flat _ (Nat.mod_lt _ (by decide))
  h3' := (wayOf_HL _ _).flat_lt
theorem sgOne_sgo (m : List Nat) (who : List Int) (bent : List Bool) (i : Nat) : (sgOne m who bent i).c = .int .i64 (who.getD i 0) :: sgo (seedQ (who.getD i 0)) (i % 8) (msgQ m bent i) := rfl
def sgL (m : List Nat) (who : List Int) (bent : List Bool) (i : Nat) : List Sg := (List.range i).map (sgOne m who bent)
theorem sgL_len (m : List Nat) (who : List Int) (bent : List Bool) (i : Nat) : (sgL m who bent i).length = i := by simp [sgL]
theorem sgL_succ (m : List Nat) (who : List Int) (bent : List Bool) (i : Nat) : sgL m who bent (i + 1) = sgL m who bent i ++ [sgOne m who bent i] := by simp [sgL, List.range_succ]
def boolL (l : List Bool) : List Go.Value := l.map Go.Value.bool
end Go.Sha
namespace Go.Vc
open Go Go.Sha
/-- It makes parameters with a slice of their own. -/
def MakesP (P : Program) (f : FuncId) (vs : List Value) (w : World) (e : TypeId) (ln wd nd : Int) (m : Nat) (cs : List Value) : Prop :=
  Calls P f vs.toArray w fun e' w' => ∃ v bl, e' = .returned (.agg (prm ln wd nd v).toArray) ∧ Own e 8 v m cs bl ∧ Fr [] w w' ∧ (∀ p ∈ bl, w'.heap[p.1]? = some p.2 ∧ w.heap.size ≤ p.1) ∧ (bl.map (·.1)).Nodup
section
variable {P : Program} {n : Nat} {w0 : World} {S0 : List Nat} {Q : Exit → Act → World → Prop} {E : Env} {L : Hp} {o : Oper} {d : Nat}
theorem OpTo.callMkP {f : FuncId} {xs : List Operand} {ts : Array TypeId} {fn : Func} {vs : List Value} {e : TypeId} {ln wd nd : Int} {m : Nat} {cs : List Value} (hf : P.funcs[f]? = some fn) (hd : o.dst = some d) (hn : Nat.blt d n = true)
    (ho : o.op = .call { callee := .value (.func f), args := xs.toArray, argTypes := ts }) (hnm : (fn.name == "runtime.NumGoroutine") = false) (hb : fn.body.isNone = false)
    (hx : lkAll E xs = some vs) (hc : ∀ w, Mem w0 S0 L w → MakesP P f vs w e ln wd nd m cs) : OpTo P n w0 S0 Q E L o (Y := {p : Value × Hp // Own e 8 p.1 m cs p.2}) (fun y => (d, .agg (prm ln wd nd y.1.1).toArray) :: E) (fun y => y.1.2 ++ L) :=
  OpTo.call (Y := {p : Value × Hp // Own e 8 p.1 m cs p.2}) (V := fun y => .agg (prm ln wd nd y.1.1).toArray) (L' := fun y => y.1.2 ++ L) hf hd hn ho hnm hb hx (fun w hm => (hc w hm).mono (by
    rintro e' w' ⟨v, bl, rfl, hown, hfr, hbl, hnd⟩
    exact ⟨⟨(v, bl), hown⟩, rfl, hm.add hfr (fun p hp => (hbl p hp).1) (fun p hp => (hbl p hp).2) hnd⟩))
theorem MakesP.of {e : TypeId} {ln wd nd : Int} {m : Nat} {cs : List Value} {v : Value} {bl L' : Hp} {w : World} (hown : Own e 8 v m cs bl) (hm : Mem w0 [] (bl ++ L') w) :
    ∃ v' bl', Ending.returned (.agg (prm ln wd nd v).toArray) = .returned (.agg (prm ln wd nd v').toArray) ∧ Own e 8 v' m cs bl' ∧ Fr [] w0 w ∧ (∀ p ∈ bl', w.heap[p.1]? = some p.2 ∧ w0.heap.size ≤ p.1) ∧ (bl'.map (·.1)).Nodup :=
  ⟨v, bl, rfl, hown, hm.fr, fun p hp => ⟨hm.has p (List.mem_append_left _ hp), (hm.own p (List.mem_append_left _ hp)).resolve_right (by simp)⟩,
   (by have := hm.nd; rw [List.map_append] at this; exact (List.nodup_append.1 this).1)⟩
theorem RQ.upQ {D : Type} {N : Nat} {R : Nat → D → Prop} {Ei : Nat → D → Env} {Li : Nat → D → Hp} {i : Nat} (j : Nat) (d : D) (hij : i < j) (hj : j ≤ N) (hR : R j d) (hE : Env.le (Ei j d) E) {L1 : Hp} (hp : L.Perm L1) (hL : (Li j d).Sublist L1) :
    RQ n w0 S0 .normal (Exit.then (Up n w0 S0 N R Ei Li i) Q) E L :=
  fun _ _ hs hm => ⟨j, d, hij, hj, hR, hs.weak hE, (hm.perm hp).sublist hL⟩
theorem fill_two {place : Nat → Option (Nat × Nat)} {z : Array Value} {u v : Value} {a b : Nat} (h0 : place 0 = some (0, a)) (h1 : place 1 = some (a, b)) (hu : u.cells.size = a) (hv : v.cells.size = b) (hz : z.size = a + b) :
    Instr.fill place z [(0, u), (1, v)] = some (u.cells.toList ++ v.cells.toList).toArray := by
  have e0 : wrAt z 0 u.cells.toList = (u.cells.toList ++ z.toList.drop a).toArray := by
    unfold wrAt
    simp [hu]
  rw [fill_step (off := 0) (by rw [h0, hu]) (by omega), e0]
  rw [fill_step (off := a) (by rw [h1, hv]) (by simp [hu]; omega)]
  have e1 : wrAt (u.cells.toList ++ z.toList.drop a).toArray a v.cells.toList = (u.cells.toList ++ v.cells.toList).toArray := by
    unfold wrAt
    congr 1
    have hua : u.cells.toList.length = a := by simpa using hu
    have t1 : List.take a (u.cells.toList ++ z.toList.drop a) = u.cells.toList := by rw [← hua, List.take_left]
    have t2 : List.drop (a + v.cells.toList.length) (u.cells.toList ++ z.toList.drop a) = [] := by
      apply List.drop_eq_nil_of_le
      simp [hu, hv, hz]
    show List.take a (u.cells.toList ++ z.toList.drop a) ++ v.cells.toList ++ List.drop (a + v.cells.toList.length) (u.cells.toList ++ z.toList.drop a) = _
    rw [t1, t2, List.append_nil]
  rw [e1]
  rfl
theorem Val.xorB {t1 t2 : Nat} {x y : Operand} {a b : Nat} (ho : o.op = .binOp .xor t1 x y t2) (hx : lk E x = some (.int .u8 a)) (hy : lk E y = some (.int .u8 b)) (ha : a < 256) (hb : b < 256) : Val P n w0 S0 E L o (.int .u8 ((Nat.xor a b : Nat) : Int)) := by
  refine Val.of ?_
  have o8 : ∀ a : Nat, a < 256 → (BitVec.ofInt 8 (a : Int)).toNat = a := fun a h => by rw [BitVec.toNat_ofInt]; omega
  have e : (BitVec.ofInt 8 (a : Int) ^^^ BitVec.ofInt 8 (b : Int)).toNat = Nat.xor a b := by rw [BitVec.toNat_xor, o8 a ha, o8 b hb]; rfl
  have h : Nat.xor a b < 256 := Nat.xor_lt_two_pow (n := 8) ha hb
  rw [ho]
  simp only [ev, hx, hy, evBin, if_true]
  show some (Value.int .u8 (IntKind.wrap .u8 ((BitVec.ofInt 8 (a : Int) ^^^ BitVec.ofInt 8 (b : Int)).toNat : Int))) = _
  rw [e, wrap_in (by simp only [inK]; omega)]
end
end Go.Vc
namespace Go.Proofs.YtkkfaffehbjdgaaGreatDoor
open Go Go.Vc Go.Sha

set_option maxRecDepth 10000 in set_option maxHeartbeats 4000000 in
theorem Seed_calls (k : Int) (w : World) : Gives Tryz.prog 39 [.int .i64 k] (.agg (u8s (seedQ k)).toArray) w := by
  refine enter Tryz.func39 rfl (Mem.nil w []) rfl ?_
  (repeat refine RC.seq ?_); refine RC.region ?_
  refine Run.nw (New.alloc tabOk rfl rfl) ?_
  intro b2
  refine Run.nil (RQ.next ?_)
  (repeat refine RC.seq ?_); refine RC.region ?_
  refine Run.a (Val.of rfl) ?_
  refine Run.a (Val.eq (Val.conv tabOk rfl rfl rfl rfl rfl rfl) (show _ = Value.int .u8 (((k % 256).toNat : Nat) : Int) from congrArg (Value.int .u8) (by rw [wrap_u8]; omega))) ?_
  refine Run.a (Val.buildA tabOk (parts := [(0, .const (.int .u8 113)), (1, .tmp 4)]) (vs := [.int .u8 113, .int .u8 ((k % 256).toNat : Nat)]) (cells := (u8s (seedQ k)).toArray) rfl rfl rfl rfl rfl rfl) ?_
  refine Run.op1 (OpTo.setAll tabOk rfl rfl rfl rfl rfl (List.Perm.refl _) rfl rfl) (fun _ => ?_)
  refine Run.nil (RQ.next ?_)
  refine RC.ret ?_; (repeat first | refine RQ.thenRet ?_ | refine RQ.blockRet ?_)
  exact RQ.ret1 rfl (Res.cellU tabOk rfl rfl rfl m0 rfl) fun w' hm => ⟨rfl, hm.fr⟩

set_option maxRecDepth 10000 in set_option maxHeartbeats 4000000 in
theorem Made_calls (k nd : Int) (w : World) : MakesP Tryz.prog 19 [.int .i64 k, .int .i64 nd] w 32 4 2 nd (min k.toNat 8) (u8s (certs (min k.toNat 8)).flatten) := by
  refine enter Tryz.func19 rfl (Mem.nil w []) rfl ?_
  (repeat refine RC.seq ?_); refine RC.region ?_
  refine Run.nw (New.allocTo tabOk (cs := (prm 0 0 0 (.slice none 0 0)).toArray) rfl rfl rfl) ?_
  intro b4
  refine Run.nil (RQ.next ?_)
  (repeat refine RC.seq ?_); refine RC.region ?_
  refine Run.a (Val.of rfl) ?_
  refine Run.a (Val.buildS tabOk (parts := [(0, .const (.int .i64 4)), (1, .const (.int .i64 2)), (2, .tmp 7)]) (vs := [.int .i64 4, .int .i64 2, .int .i64 nd]) (cells := (prm 4 2 nd (.slice none 0 0)).toArray) rfl rfl rfl rfl rfl rfl) ?_
  refine Run.nw (New.allocTo tabOk (cs := (prm 0 0 0 (.slice none 0 0)).toArray) rfl rfl rfl) ?_
  intro b5
  refine Run.op1 (OpTo.setV tabOk [] (prm 0 0 0 (.slice none 0 0)) (prm 4 2 nd (.slice none 0 0)) [] rfl rfl rfl rfl rfl (List.Perm.refl _) rfl (by simp) rfl rfl rfl (by intro u hu; simp [prm] at hu; rcases hu with rfl | rfl | rfl | rfl <;> rfl)) (fun _ => ?_)
  rw [List.nil_append, List.append_nil]
  refine Run.nil (RQ.next ?_)
  (repeat refine RC.seq ?_); refine RC.region ?_
  refine Run.a (Val.of rfl) ?_
  refine Run.nil (RQ.next ?_)
  (repeat refine RC.seq ?_); refine RC.block ?_
  refine RC.up 8 (D := Value × Hp) (fun i x => i ≤ k.toNat ∧ Own 32 8 x.1 i (u8s (certs i).flatten) x.2)
    (fun i _ => [(6, .int .i64 i), (5, .pointer (some ⟨b5, 0, none⟩)), (4, .pointer (some ⟨b4, 0, none⟩)), (0, .int .i64 k)])
    (fun i x => x.2 ++ [(b5, .cells (prm 4 2 nd x.1).toArray 43 (0, 0)), (b4, .cells (prm 0 0 0 (.slice none 0 0)).toArray 43 (0, 0))])
    0 (_, _) (Nat.zero_le _) ⟨Nat.zero_le _, Own.nil⟩ ⟨rfl, rfl, rfl, rfl, trivial⟩ (List.Sublist.refl _) ?_
  rintro i ⟨v3, bl3⟩ hi ⟨hik, hown⟩
  dsimp only at hik hown ⊢
  by_cases hgo : (i : Int) < k ∧ i < 8
  · obtain ⟨g1, g2⟩ := hgo
    have hsu := certs_succ i
    have hk8 := treeOf_len (seedQ i)
    have hT := fun w' => ref_Tree_calls (seedQ i) rfl (seedQ_lt i) w'
    (repeat refine RC.seq ?_); refine RC.region ?_
    refine Run.a (Val.of rfl) ?_
    refine Run.a (Val.of rfl) ?_
    refine Run.a (Val.eq (Val.of rfl) (show _ = Value.bool true from congrArg Value.bool (decide_eq_true g1))) ?_
    refine Run.a (Val.of rfl) ?_
    refine Run.a (Val.of rfl) ?_
    refine Run.a (Val.eq (Val.of rfl) (show _ = Value.bool true from congrArg Value.bool (decide_eq_true (by omega)))) ?_
    refine Run.a (Val.of rfl) ?_
    refine Run.nil (RQ.next ?_)
    (repeat refine RC.seq ?_); refine RC.wh rfl (fun h => RQ.next ?_) (fun h => by cases h)
    (repeat refine RC.seq ?_); refine RC.block ?_
    (repeat refine RC.seq ?_); refine RC.draw ([(b5, .cells (prm 4 2 nd v3).toArray 43 (0, 0))]) mixed (N := 9) rfl ?_
    refine DR.t 0 rfl (Val.fieldAddr tabOk rfl rfl rfl rfl rfl rfl rfl rfl) ?_
    refine DR.t 1 rfl (Val.load (v := v3) tabOk rfl rfl rfl m0 rfl) ?_
    refine DR.t 2 rfl (Val.of rfl) ?_
    refine DR.c 3 ?_
    refine DOp.op1 rfl (OpTo.callV Tryz.func39 rfl rfl rfl rfl rfl rfl (fun w' _ => Seed_calls i w')) (fun _ => ?_)
    refine DR.c 4 ?_
    refine DOp.op1 rfl (OpTo.callV Tryz.func38 rfl rfl rfl rfl rfl rfl (fun w' _ => hT w')) (fun _ => ?_)
    generalize treeOf (seedQ i) = tr at *
    refine DR.c 5 ?_
    refine DOp.op1 rfl (OpTo.new rfl rfl (New.buildSlice tabOk (parts := [(0, .tmp 22)]) (cells := (u8s tr).toArray) rfl rfl rfl rfl rfl rfl (fillS_one _ _ tr hk8))) ?_
    intro b23
    refine DR.one (i := 6) (by kernel_rfl) (DOp.op rfl (Wanted.plain rfl) (OpTo.append tabOk hown (Src.at ⟨b23, 0, none⟩ 1 1 (u8s tr) (by rw [u8s_len, hk8]; rfl) (Rd.rowAll m0)) rfl rfl rfl rfl rfl rfl rfl rfl rfl (List.perm_append_comm_assoc [_] bl3 _) (u8s_one _) (by unfold maxLen; omega) (by simp only [ti32]; omega)) (.inl fun _ => (by repeat (first | exact List.nil_sublist _ | exact List.Sublist.refl _ | apply List.Sublist.cons_cons | apply List.Sublist.cons | apply Go.Vc.subApp))) ?_)
    rintro ⟨⟨v9, bl9⟩, hown9⟩
    dsimp only at hown9 ⊢
    obtain ⟨a9, c9, rfl, hc9⟩ := hown9.shape
    refine DR.t 7 rfl (Val.fieldAddr tabOk rfl rfl rfl rfl rfl rfl rfl rfl) ?_
    refine DR.c 8 ?_
    refine DOp.op1 rfl (OpTo.setV tabOk [.int .i64 4, .int .i64 2, .int .i64 nd] [v3] [.slice a9 (i + 1 : Nat) c9] [] rfl rfl rfl rfl rfl pin1 rfl rfl rfl rfl rfl (by intro u hu; rw [List.mem_singleton] at hu; subst hu; rfl)) (fun _ => ?_)
    refine DR.done (by kernel_rfl) (RQ.blockNormal (RQ.next ?_))
    refine RC.region ?_
    repeat (first | refine Run.a Val.ra ?_ | refine Run.a (Val.of rfl) ?_)
    refine Run.nil (RQ.upQ (i + 1) (.slice a9 (i + 1) c9, bl9) (Nat.lt_succ_self _) (by omega) ⟨by omega, ?_⟩ ⟨rfl, rfl, rfl, rfl, trivial⟩ pin0.symm (List.Sublist.append (List.Sublist.refl _) (List.Sublist.cons_cons _ (List.Sublist.cons _ (List.Sublist.refl _)))))
    have h : Own 32 8 (.slice a9 (i + 1) c9) (i + 1) _ bl9 := hown9
    rw [← u8s_app] at h
    rw [hsu]
    simpa [List.flatten_append] using h
  · have hend : min k.toNat 8 = i := by omega
    rw [hend]
    obtain ⟨a9, c9, rfl, hc9⟩ := hown.shape
    by_cases g1 : (i : Int) < k
    · (repeat refine RC.seq ?_); refine RC.region ?_
      refine Run.a (Val.of rfl) ?_
      refine Run.a (Val.of rfl) ?_
      refine Run.a (Val.eq (Val.of rfl) (show _ = Value.bool true from congrArg Value.bool (decide_eq_true g1))) ?_
      refine Run.a (Val.of rfl) ?_
      refine Run.a (Val.of rfl) ?_
      refine Run.a (Val.eq (Val.of rfl) (show _ = Value.bool false from congrArg Value.bool (decide_eq_false (by omega)))) ?_
      refine Run.a (Val.of rfl) ?_
      refine Run.nil (RQ.next ?_)
      (repeat refine RC.seq ?_); refine RC.wh rfl (fun h => by cases h) (fun h => ?_)
      (repeat refine RQ.thenExit ?_); refine RQ.blockHere ?_
      refine RQ.next ?_
      (repeat refine RC.seq ?_); refine RC.region ?_
      refine Run.a (Val.loadAll tabOk rfl rfl rfl rfl (List.mem_append_right _ m0) rfl) ?_
      refine Run.op1 (OpTo.setV tabOk [] (prm 0 0 0 (.slice none 0 0)) (prm 4 2 nd (.slice a9 i c9)) [] rfl rfl rfl rfl rfl pin1 rfl (by simp) rfl rfl rfl (by intro u hu; simp [prm] at hu; rcases hu with rfl | rfl | rfl | rfl <;> rfl)) (fun _ => ?_)
      rw [List.nil_append, List.append_nil]
      refine Run.nil (RQ.next ?_)
      refine RC.ret ?_; (repeat first | refine RQ.thenRet ?_ | refine RQ.blockRet ?_)
      exact RQ.ret1 rfl (Res.cellAll tabOk rfl rfl rfl m0 rfl) fun w' hm => MakesP.of hown (hm.perm pin0.symm)
    · (repeat refine RC.seq ?_); refine RC.region ?_
      refine Run.a (Val.of rfl) ?_
      refine Run.a (Val.of rfl) ?_
      refine Run.a (Val.eq (Val.of rfl) (show _ = Value.bool false from congrArg Value.bool (decide_eq_false g1))) ?_
      refine Run.a (Val.of rfl) ?_
      refine Run.sk ?_
      refine Run.sk ?_
      refine Run.a (Val.of rfl) ?_
      refine Run.nil (RQ.next ?_)
      (repeat refine RC.seq ?_); refine RC.wh rfl (fun h => by cases h) (fun h => ?_)
      (repeat refine RQ.thenExit ?_); refine RQ.blockHere ?_
      refine RQ.next ?_
      (repeat refine RC.seq ?_); refine RC.region ?_
      refine Run.a (Val.loadAll tabOk rfl rfl rfl rfl (List.mem_append_right _ m0) rfl) ?_
      refine Run.op1 (OpTo.setV tabOk [] (prm 0 0 0 (.slice none 0 0)) (prm 4 2 nd (.slice a9 i c9)) [] rfl rfl rfl rfl rfl pin1 rfl (by simp) rfl rfl rfl (by intro u hu; simp [prm] at hu; rcases hu with rfl | rfl | rfl | rfl <;> rfl)) (fun _ => ?_)
      rw [List.nil_append, List.append_nil]
      refine Run.nil (RQ.next ?_)
      refine RC.ret ?_; (repeat first | refine RQ.thenRet ?_ | refine RQ.blockRet ?_)
      exact RQ.ret1 rfl (Res.cellAll tabOk rfl rfl rfl m0 rfl) fun w' hm => MakesP.of hown (hm.perm pin0.symm)

end Go.Proofs.YtkkfaffehbjdgaaGreatDoor

/- quorum's law: Signed. -/
namespace Go.Sha
theorem bend_old {m : List Nat} (h : m.length = 8) : u8s m = [] ++ [Go.Value.int .u8 (m.getD 0 0 : Nat)] ++ u8s (m.drop 1) ∧ [] ++ [Go.Value.int .u8 (Nat.xor (m.getD 0 0) 1 : Nat)] ++ u8s (m.drop 1) = u8s (bend m) := by
  match m, h with
  | a :: m, _ => exact ⟨rfl, rfl⟩
theorem getD_some {α : Type} {l : List α} {i : Nat} (h : i < l.length) (d : α) : l[i]? = some (l.getD i d) := by
  rw [List.getD_eq_getElem?_getD, List.getElem?_eq_getElem h]; rfl
end Go.Sha
namespace Go.Vc
open Go Go.Sha
theorem oneAt {w : World} {ad : Addr} {cs : List Value} (hr : ∀ j u, cs[j]? = some u → w.cell? (ad.add j) = some u) {i : Nat} {u : Value} (h : cs[i]? = some u) : w.cell? (ad.add (i * 1)) = some u := by
  rw [Nat.mul_one]; exact hr i u h
end Go.Vc
namespace Go.Proofs.YtkkfaffehbjdgaaGreatDoor
open Go Go.Vc Go.Sha

set_option maxRecDepth 10000 in set_option maxHeartbeats 4000000 in
theorem Signed_calls (m : List Nat) (hm8 : m.length = 8) (hmlt : ∀ x ∈ m, x < 256) (who : List Int) (hwl : who.length ≤ 8) (bent : List Bool) (hbl : bent.length ≤ 9223372036854775807) (vw vb : Value) (w : World)
    (hsw : SrcW w 1 vw who.length (i64L who)) (hsb : SrcW w 1 vb bent.length (boolL bent)) :
    Makes Tryz.prog 25 [.agg (u8s m).toArray, vw, vb] w 102 282 who.length (rowSg (sgL m who bent who.length)) := by
  refine enter Tryz.func25 rfl (Mem.nil w []) rfl ?_
  obtain ⟨wa, wc, rfl, hwc⟩ := hsw.shape
  obtain ⟨ba, bc, rfl, hbc⟩ := hsb.shape
  (repeat refine RC.seq ?_); refine RC.region ?_
  refine Run.nw (New.boxA rfl rfl) ?_
  intro b3
  refine Run.a (Val.of rfl) ?_
  refine Run.nil (RQ.next ?_)
  (repeat refine RC.seq ?_); refine RC.region ?_
  refine Run.a (Val.of rfl) ?_
  refine Run.nil (RQ.next ?_)
  (repeat refine RC.seq ?_); refine RC.region ?_
  refine Run.a (Val.of rfl) ?_
  refine Run.nil (RQ.next ?_)
  (repeat refine RC.seq ?_); refine RC.block ?_
  refine RC.up who.length (D := Value × Hp) (fun i x => Own 102 282 x.1 i (rowSg (sgL m who bent i)) x.2)
    (fun i x => [(8, .int .i64 i), (7, x.1), (3, .pointer (some ⟨b3, 0, none⟩)), (1, .slice wa who.length wc), (2, .slice ba bent.length bc)])
    (fun i x => x.2 ++ [(b3, .cells (u8s m).toArray 32 (0, 0))])
    0 (_, _) (Nat.zero_le _) Own.nil ⟨rfl, rfl, rfl, rfl, rfl, trivial⟩ (List.Sublist.refl _) ?_
  rintro i ⟨v3, bl3⟩ hi hown
  dsimp only at hown ⊢
  (repeat refine RC.seq ?_); refine RC.region ?_
  refine Run.a (Val.of rfl) ?_
  refine Run.a (Val.of rfl) ?_
  refine Run.a (Val.len (len := who.length) tabOk rfl rfl rfl rfl) ?_
  refine Run.a (Val.of rfl) ?_
  refine Run.nil (RQ.next ?_)
  (repeat refine RC.seq ?_); refine RC.wh rfl (fun h => RQ.next ?_) (fun h => ?_)
  · have hi' : i < who.length := by have := of_decide_eq_true h; omega
    clear h
    have hwat : (i64L who)[i]? = some (.int .i64 (who.getD i 0)) := by rw [i64L, List.getElem?_map, getD_some hi' 0]; rfl
    obtain ⟨wad, wc', hv, hwc', hwcl, hwr⟩ := hsw.pos (by omega)
    cases hv
    have hwload := oneAt hwr hwat
    (repeat refine RC.seq ?_); refine RC.block ?_
    (repeat refine RC.seq ?_); refine RC.region ?_
    refine Run.a (Val.loadU tabOk rfl rfl rfl rfl (List.mem_append_right _ m0) hm8) ?_
    refine Run.nw (New.alloc tabOk rfl rfl) ?_
    intro b9
    refine Run.op1 (OpTo.setAll tabOk rfl rfl rfl rfl rfl (List.Perm.refl _) hm8 rfl) (fun _ => ?_)
    refine Run.nil (RQ.next ?_)
    (repeat refine RC.seq ?_)
    refine RC.thenCut (Y := Unit) (fun _ => [(28, .bool (bent.getD i false)), (9, .pointer (some ⟨b9, 0, none⟩)), (8, .int .i64 i), (7, v3), (3, .pointer (some ⟨b3, 0, none⟩)), (1, .slice (some wad) who.length wc), (2, .slice ba bent.length bc)])
      (fun _ => (b9, .cells (u8s m).toArray 32 (0, 0)) :: (bl3 ++ [(b3, .cells (u8s m).toArray 32 (0, 0))])) ?_ (fun _ => ?_)
    · by_cases hb : i < bent.length
      · have hbat : (boolL bent)[i]? = some (.bool (bent.getD i false)) := by rw [boolL, List.getElem?_map, getD_some hb false]; rfl
        obtain ⟨bad, bc', hv, hbc', hbcl, hbr⟩ := hsb.pos (by omega)
        cases hv
        have hbload := oneAt hbr hbat
        (repeat refine RC.seq ?_); refine RC.region ?_
        refine Run.a (Val.of rfl) ?_
        refine Run.a (Val.of rfl) ?_
        refine Run.a (Val.len (len := bent.length) tabOk rfl rfl rfl rfl) ?_
        refine Run.a (Val.eq (Val.of rfl) (show _ = Value.bool true from congrArg Value.bool (decide_eq_true (by omega)))) ?_
        refine Run.a (Val.of rfl) ?_
        refine Run.a (Val.of rfl) ?_
        refine Run.a (Val.of rfl) ?_
        refine Run.a (Val.ixS tabOk i (ad' := bad.add (i * 1)) rfl rfl rfl rfl rfl rfl rfl hb rfl) ?_
        refine Run.a (Val.loadOld1 (v := .bool (bent.getD i false)) tabOk rfl rfl rfl rfl (by simp) hbload) ?_
        refine Run.a (Val.of rfl) ?_
        exact Run.nil (RQ.to () ⟨rfl, rfl, rfl, rfl, rfl, rfl, rfl, trivial⟩ (List.Sublist.refl _))
      · have hbf : bent.getD i false = false := by rw [List.getD_eq_getElem?_getD, List.getElem?_eq_none (by omega)]; rfl
        rw [hbf]
        (repeat refine RC.seq ?_); refine RC.region ?_
        refine Run.a (Val.of rfl) ?_
        refine Run.a (Val.of rfl) ?_
        refine Run.a (Val.len (len := bent.length) tabOk rfl rfl rfl rfl) ?_
        refine Run.a (Val.eq (Val.of rfl) (show _ = Value.bool false from congrArg Value.bool (decide_eq_false (by omega)))) ?_
        refine Run.a (Val.of rfl) ?_
        refine Run.sk ?_
        refine Run.sk ?_
        refine Run.sk ?_
        refine Run.sk ?_
        refine Run.a (Val.of rfl) ?_
        exact Run.nil (RQ.to () ⟨rfl, rfl, rfl, rfl, rfl, rfl, rfl, trivial⟩ (List.Sublist.refl _))
    (repeat refine RC.seq ?_)
    refine RC.thenCut (Y := Unit) (fun _ => [(9, .pointer (some ⟨b9, 0, none⟩)), (8, .int .i64 i), (7, v3), (3, .pointer (some ⟨b3, 0, none⟩)), (1, .slice (some wad) who.length wc), (2, .slice ba bent.length bc)])
      (fun _ => (b9, .cells (u8s (msgQ m bent i)).toArray 32 (0, 0)) :: (bl3 ++ [(b3, .cells (u8s m).toArray 32 (0, 0))])) ?_ (fun _ => ?_)
    · refine RC.cond rfl (fun h => ?_) (fun h => ?_)
      · have hq : msgQ m bent i = bend m := by unfold msgQ; rw [if_pos h]
        rw [hq]
        obtain ⟨o1, o2⟩ := bend_old hm8
        have h0 : (u8s m).toArray[0]? = some (.int .u8 (m.getD 0 0 : Nat)) := by rw [List.getElem?_toArray]; exact u8s_at m 0 (by omega)
        have hlt0 : m.getD 0 0 < 256 := by
          rw [List.getD_eq_getElem?_getD, List.getElem?_eq_getElem (by omega)]
          exact hmlt _ (List.getElem_mem _)
        (repeat refine RC.seq ?_); refine RC.region ?_
        refine Run.a (Val.ix tabOk 0 (off' := 0) rfl rfl rfl rfl rfl rfl rfl (by decide) rfl) ?_
        refine Run.a (Val.load (v := .int .u8 (m.getD 0 0 : Nat)) tabOk rfl rfl rfl m0 h0) ?_
        refine Run.a (Val.xorB (b := 1) rfl rfl rfl hlt0 (by decide)) ?_
        refine Run.a (Val.ix tabOk 0 (off' := 0) rfl rfl rfl rfl rfl rfl rfl (by decide) rfl) ?_
        refine Run.op1 (OpTo.setV tabOk [] [.int .u8 (m.getD 0 0 : Nat)] [.int .u8 (Nat.xor (m.getD 0 0) 1 : Nat)] (u8s (m.drop 1)) rfl rfl rfl rfl rfl (List.Perm.refl _) rfl o1 rfl rfl rfl (by intro u hu; rw [List.mem_singleton] at hu; subst hu; rfl)) (fun _ => ?_)
        rw [o2]
        exact Run.nil (RQ.to () ⟨rfl, rfl, rfl, rfl, rfl, rfl, trivial⟩ (List.Sublist.refl _))
      · have hq : msgQ m bent i = m := by unfold msgQ; rw [if_neg (by rw [h]; decide)]
        rw [hq]
        exact RC.skip (RQ.to () ⟨rfl, rfl, rfl, rfl, rfl, rfl, trivial⟩ (List.Sublist.refl _))
    have hx8 := msgQ_len hm8 bent i
    have hS := fun w' => SignTree_good (seedQ (who.getD i 0)) (msgQ m bent i) (i := i % 8) (Nat.mod_lt _ (by decide)) rfl (seedQ_lt _) hx8 (msgQ_lt hmlt bent i) w'
    have hsl := sgo_len (seedQ (who.getD i 0)) (msgQ m bent i) (i := i % 8) (Nat.mod_lt _ (by decide))
    have hsone : ∀ u ∈ sgo (seedQ (who.getD i 0)) (i % 8) (msgQ m bent i), u.oneCell' = true := sigC_one
    have hsu := sgL_succ m who bent i
    have hc := sgOne_sgo m who bent i
    have hcl := (sgOne m who bent i).len
    have hc1 := (sgOne m who bent i).one
    generalize sgOne m who bent i = sg at *
    rw [hc] at hcl hc1
    generalize sgo (seedQ (who.getD i 0)) (i % 8) (msgQ m bent i) = so at *
    generalize msgQ m bent i = mq at *
    generalize hkk : who.getD i 0 = kk at *
    (repeat refine RC.seq ?_)
    refine RC.thenCut (Y := Nat) (fun b10 => [(10, .pointer (some ⟨b10, 0, none⟩)), (8, .int .i64 i), (7, v3), (3, .pointer (some ⟨b3, 0, none⟩)), (1, .slice (some wad) who.length wc), (2, .slice ba bent.length bc)])
      (fun b10 => (b10, .cells so.toArray 100 (0, 0)) :: (bl3 ++ [(b3, .cells (u8s m).toArray 32 (0, 0))])) ?_ (fun b10 => ?_)
    · (repeat refine RC.seq ?_); refine RC.draw ([(b9, .cells (u8s mq).toArray 32 (0, 0))]) mixed (N := 15) rfl ?_
      refine DR.t 0 rfl (Val.of rfl) ?_
      refine DR.t 1 rfl (Val.of rfl) ?_
      refine DR.t 2 rfl (Val.ixS tabOk i (ad' := wad.add (i * 1)) rfl rfl rfl rfl rfl rfl rfl hi' rfl) ?_
      refine DR.t 3 rfl (Val.loadOld1 (v := .int .i64 kk) tabOk rfl rfl rfl rfl (by simp) hwload) ?_
      refine DR.t 5 rfl (Val.of rfl) ?_
      refine DR.t 6 rfl (Val.remN rfl rfl rfl rfl (by decide)) ?_
      refine DR.t 7 rfl (Val.loadU tabOk rfl rfl rfl rfl m0 hx8) ?_
      refine DR.two (i := 4) (j := 12) (by kernel_rfl) ?_ ?_
      · refine DOp.op1 rfl (OpTo.callV Tryz.func39 rfl rfl rfl rfl rfl rfl (fun w' _ => Seed_calls kk w')) (fun _ => ?_)
        refine DR.two (i := 8) (j := 12) (by kernel_rfl) ?_ ?_
        · refine DOp.op1 rfl (OpTo.callV Tryz.func44 rfl rfl rfl rfl rfl rfl (fun w' _ => hS w')) (fun _ => ?_)
          refine DR.t 9 rfl (Val.of rfl) ?_
          refine DR.t 10 rfl (Val.of rfl) ?_
          refine DR.t 11 rfl (Val.of rfl) ?_
          refine DR.c 12 ?_
          refine DOp.op1 rfl (OpTo.new rfl rfl (New.allocTo tabOk (cs := sgz.toArray) rfl rfl (by kernel_rfl))) ?_
          intro b10
          refine DR.c 13 ?_
          refine DOp.op1 rfl (OpTo.setV tabOk [] sgz so [] rfl rfl rfl rfl rfl (List.Perm.refl _) rfl (by simp) rfl (by rw [sgz_len, hsl]) (by rw [hsl]; rfl) hsone) (fun _ => ?_)
          rw [List.nil_append, List.append_nil]
          refine DR.t 14 rfl (Val.of rfl) ?_
          refine DR.done (by kernel_rfl) ?_
          exact RQ.to b10 ⟨rfl, rfl, rfl, rfl, rfl, rfl, trivial⟩ (by repeat (first | exact List.nil_sublist _ | exact List.Sublist.refl _ | apply List.Sublist.cons_cons | apply List.Sublist.cons | apply Go.Vc.subApp))
        · refine DOp.op1 rfl (OpTo.new rfl rfl (New.allocTo tabOk (cs := sgz.toArray) rfl rfl (by kernel_rfl))) ?_
          intro b10
          refine DR.c 8 ?_
          refine DOp.op1 rfl (OpTo.callV Tryz.func44 rfl rfl rfl rfl rfl rfl (fun w' _ => hS w')) (fun _ => ?_)
          refine DR.t 9 rfl (Val.of rfl) ?_
          refine DR.t 10 rfl (Val.of rfl) ?_
          refine DR.t 11 rfl (Val.of rfl) ?_
          refine DR.c 13 ?_
          refine DOp.op1 rfl (OpTo.setV tabOk [] sgz so [] rfl rfl rfl rfl rfl (List.Perm.refl _) rfl (by simp) rfl (by rw [sgz_len, hsl]) (by rw [hsl]; rfl) hsone) (fun _ => ?_)
          rw [List.nil_append, List.append_nil]
          refine DR.t 14 rfl (Val.of rfl) ?_
          refine DR.done (by kernel_rfl) ?_
          exact RQ.to b10 ⟨rfl, rfl, rfl, rfl, rfl, rfl, trivial⟩ (by repeat (first | exact List.nil_sublist _ | exact List.Sublist.refl _ | apply List.Sublist.cons_cons | apply List.Sublist.cons | apply Go.Vc.subApp))
      · refine DOp.op1 rfl (OpTo.new rfl rfl (New.allocTo tabOk (cs := sgz.toArray) rfl rfl (by kernel_rfl))) ?_
        intro b10
        refine DR.c 4 ?_
        refine DOp.op1 rfl (OpTo.callV Tryz.func39 rfl rfl rfl rfl rfl rfl (fun w' _ => Seed_calls kk w')) (fun _ => ?_)
        refine DR.c 8 ?_
        refine DOp.op1 rfl (OpTo.callV Tryz.func44 rfl rfl rfl rfl rfl rfl (fun w' _ => hS w')) (fun _ => ?_)
        refine DR.t 9 rfl (Val.of rfl) ?_
        refine DR.t 10 rfl (Val.of rfl) ?_
        refine DR.t 11 rfl (Val.of rfl) ?_
        refine DR.c 13 ?_
        refine DOp.op1 rfl (OpTo.setV tabOk [] sgz so [] rfl rfl rfl rfl rfl (List.Perm.refl _) rfl (by simp) rfl (by rw [sgz_len, hsl]) (by rw [hsl]; rfl) hsone) (fun _ => ?_)
        rw [List.nil_append, List.append_nil]
        refine DR.t 14 rfl (Val.of rfl) ?_
        refine DR.done (by kernel_rfl) ?_
        exact RQ.to b10 ⟨rfl, rfl, rfl, rfl, rfl, rfl, trivial⟩ (by repeat (first | exact List.nil_sublist _ | exact List.Sublist.refl _ | apply List.Sublist.cons_cons | apply List.Sublist.cons | apply Go.Vc.subApp))
    · (repeat refine RC.seq ?_); refine RC.draw ([(b10, .cells so.toArray 100 (0, 0))]) mixed (N := 10) rfl ?_
      refine DR.t 0 rfl (Val.of rfl) ?_
      refine DR.t 1 rfl (Val.of rfl) ?_
      refine DR.t 2 rfl (Val.of rfl) ?_
      refine DR.t 3 rfl (Val.ixS tabOk i (ad' := wad.add (i * 1)) rfl rfl rfl rfl rfl rfl rfl hi' rfl) ?_
      refine DR.t 4 rfl (Val.loadOld1 (v := .int .i64 kk) tabOk rfl rfl rfl rfl (by simp) hwload) ?_
      refine DR.t 5 rfl (Val.loadAll tabOk rfl rfl rfl rfl m0 (by rw [List.size_toArray, hsl]; rfl)) ?_
      refine DR.t 6 rfl (Val.buildS tabOk (parts := [(0, .tmp 49), (1, .tmp 50)]) (vs := [.int .i64 kk, .agg so.toArray]) (cells := (Value.int .i64 kk :: so).toArray) rfl rfl rfl rfl rfl (fill_two rfl rfl rfl (by rw [show (Value.agg so.toArray).cells = so.toArray from rfl, List.size_toArray, hsl]; rfl) (by kernel_rfl))) ?_
      refine DR.c 7 ?_
      refine DOp.op1 rfl (OpTo.new rfl rfl (New.buildSlice tabOk (parts := [(0, .tmp 51)]) (cells := (Value.int .i64 kk :: so).toArray) rfl rfl rfl rfl rfl rfl ((fillS_full 282 1 _ [.agg (Value.int .i64 kk :: so).toArray] rfl (by intro v hv; rw [List.mem_singleton] at hv; subst hv; rw [show (Value.agg (Value.int .i64 kk :: so).toArray).cells = (Value.int .i64 kk :: so).toArray from rfl, List.size_toArray, hcl])).trans (by simp [Value.cells])))) ?_
      intro b52
      refine DR.one (i := 8) (by kernel_rfl) (DOp.op rfl (Wanted.plain rfl) (OpTo.append tabOk hown (Src.at ⟨b52, 0, none⟩ 1 1 (Value.int .i64 kk :: so) (by rw [hcl]; rfl) (Rd.rowAll m0)) rfl rfl rfl rfl rfl rfl rfl rfl rfl (List.perm_append_comm_assoc [_, _] bl3 _) hc1 (by unfold maxLen; omega) (by simp only [ti102]; omega)) (.inl fun _ => (by repeat (first | exact List.nil_sublist _ | exact List.Sublist.refl _ | apply List.Sublist.cons_cons | apply List.Sublist.cons | apply Go.Vc.subApp))) ?_)
      rintro ⟨⟨v9, bl9⟩, hown9⟩
      dsimp only at hown9 ⊢
      refine DR.t 9 rfl (Val.of rfl) ?_
      refine DR.done (by kernel_rfl) (RQ.blockNormal (RQ.next ?_))
      refine RC.region ?_
      repeat (first | refine Run.a Val.ra ?_ | refine Run.a (Val.of rfl) ?_)
      refine Run.nil (RQ.up (i + 1) (v9, bl9) (Nat.lt_succ_self _) hi' ?_ ⟨rfl, rfl, rfl, rfl, rfl, trivial⟩ (List.Sublist.append (List.Sublist.refl _) (List.Sublist.cons _ (List.Sublist.cons _ (List.Sublist.refl _)))))
      have h : Own 102 282 v9 (i + 1) _ bl9 := hown9
      rw [hsu, rowSg_app, show rowSg [sg] = sg.c ++ [] from rfl, List.append_nil, hc]
      exact h
  · have hi' : i = who.length := by have := of_decide_eq_false h; omega
    subst hi'
    (repeat refine RQ.thenExit ?_); refine RQ.blockHere ?_
    refine RQ.next ?_
    (repeat refine RC.seq ?_); refine RC.region ?_
    refine Run.a (Val.of rfl) ?_
    refine Run.a (Val.of rfl) ?_
    refine Run.nil (RQ.next ?_)
    refine RC.ret ?_; (repeat first | refine RQ.thenRet ?_ | refine RQ.blockRet ?_)
    exact RQ.ret1 rfl (Res.tmp rfl) fun w' hm => Makes.of hown hm
end Go.Proofs.YtkkfaffehbjdgaaGreatDoor
end
