/- Lemmas. -/
import Derived.Test.YtfoeakgnkfcbjaaGreatDoorPt10
set_option linter.unusedSimpArgs false
set_option linter.unusedVariables false
section
/- quorum: the reference's Zero; slices.Index, slices.Contains; May, MayParams. -/
namespace Go.Sha
/-- The keys of parameters are all different, and none is zero. -/
def kOk (l : List (List Nat)) : Bool := decide (zero8 ∉ l ∧ l.Nodup)
theorem kOk_bad {l : List (List Nat)} {i : Nat} {x : List Nat} (hx : l[i]? = some x) (h : x = zero8 ∨ x ∈ l.take i) : kOk l = false := by
  unfold kOk
  rw [decide_eq_false_iff_not]
  rintro ⟨h1, h2⟩
  rcases h with rfl | h
  · exact h1 (List.mem_of_getElem? hx)
  · have e : l = l.take i ++ l.drop i := (List.take_append_drop i l).symm
    rw [e] at h2
    have hd : x ∈ l.drop i := by
      have hi := (List.getElem?_eq_some_iff.1 hx).1
      rw [List.drop_eq_getElem_cons hi]
      have := (List.getElem?_eq_some_iff.1 hx).2
      rw [← this]
      exact List.mem_cons_self
    exact (List.nodup_append.1 h2).2.2 x h x hd rfl
theorem kOk_step {l : List (List Nat)} {i : Nat} {x : List Nat} (hx : l[i]? = some x) (h : zero8 ∉ l.take i ∧ (l.take i).Nodup) (h1 : x ≠ zero8) (h2 : x ∉ l.take i) : zero8 ∉ l.take (i + 1) ∧ (l.take (i + 1)).Nodup := by
  rw [List.take_add_one, hx]
  refine ⟨?_, List.nodup_append.2 ⟨h.2, by simp, ?_⟩⟩
  · intro hm
    rcases List.mem_append.1 hm with hm | hm
    · exact h.1 hm
    · simp at hm
      exact h1 hm.symm
  · intro a ha b hb
    simp at hb
    subst hb
    rintro rfl
    exact h2 ha
theorem kOk_good {l : List (List Nat)} (h : zero8 ∉ l.take l.length ∧ (l.take l.length).Nodup) : kOk l = true := by
  rw [List.take_length] at h
  exact decide_eq_true h
/-- Chapter 9: whether parameters may be. -/
def mayP (ln wd nd : Int) (l : List (List Nat)) : Bool := decide (1 ≤ l.length ∧ l.length ≤ 5 ∧ 1 ≤ nd ∧ nd ≤ l.length) && (kOk l && decide (2 ≤ ln ∧ ln ≤ 64 ∧ 1 ≤ wd ∧ wd ≤ ln))
theorem mayP_bad {ln wd nd : Int} {l : List (List Nat)} (h : ¬ (1 ≤ l.length ∧ l.length ≤ 5 ∧ 1 ≤ nd ∧ nd ≤ l.length)) : mayP ln wd nd l = false := by unfold mayP; rw [decide_eq_false h]; rfl
theorem mayP_keys {ln wd nd : Int} {l : List (List Nat)} (h : kOk l = false) : mayP ln wd nd l = false := by unfold mayP; rw [h]; simp
theorem mayP_time {ln wd nd : Int} {l : List (List Nat)} (h : ¬ (2 ≤ ln ∧ ln ≤ 64 ∧ 1 ≤ wd ∧ wd ≤ ln)) : mayP ln wd nd l = false := by unfold mayP; rw [decide_eq_false h]; simp
theorem mayP_good {ln wd nd : Int} {l : List (List Nat)} (h1 : 1 ≤ l.length ∧ l.length ≤ 5 ∧ 1 ≤ nd ∧ nd ≤ l.length) (h2 : kOk l = true) (h3 : 2 ≤ ln ∧ ln ≤ 64 ∧ 1 ≤ wd ∧ wd ≤ ln) : mayP ln wd nd l = true := by unfold mayP; rw [decide_eq_true h1, h2, decide_eq_true h3]; rfl
/-- Parameters, as cells. -/
def prm (ln wd nd : Int) (v : Go.Value) : List Go.Value := [.int .i64 ln, .int .i64 wd, .int .i64 nd, v]
end Go.Sha
namespace Go.Vc
open Go Go.Sha
/-- A hash of a row somewhere. -/
theorem hashAt {w : World} {ad : Addr} {l : List (List Nat)} (hH : HL l) (hr : ∀ j u, (u8s l.flatten)[j]? = some u → w.cell? (ad.add j) = some u) {i : Nat} {x : List Nat} (hx : l[i]? = some x) :
    ∀ j u, (u8s x)[j]? = some u → w.cell? ((ad.add (i * 8)).add j) = some u := fun j u hj => by
  rw [add_add]
  refine hr _ u ?_
  have := pc_row (c := 8) (l := l.flatten) i j u (by rw [pc_flat hH hx]; exact hj)
  rwa [List.getElem?_toArray] at this
end Go.Vc
namespace Go.Proofs.YtfoeakgnkfcbjaaGreatDoor
open Go Go.Vc Go.Sha

set_option maxRecDepth 10000 in set_option maxHeartbeats 4000000 in
theorem ref_Zero_calls (a : List Nat) (ha : a.length = 8) (w : World) :
    Gives Tryz.prog 132 [.agg (u8s a).toArray] (.bool (decide (a = zero8))) w := by
  refine enter Tryz.func132 rfl (Mem.nil w []) rfl ?_
  (repeat refine RC.seq ?_); refine RC.region ?_
  refine Run.nw (New.boxA rfl rfl) ?_
  intro b1
  refine Run.a (Val.of rfl) ?_
  refine Run.nil (RQ.next ?_)
  (repeat refine RC.seq ?_); refine RC.region ?_
  refine Run.a (Val.loadU tabOk rfl rfl rfl rfl m0 ha) ?_
  refine Run.a (Val.buildA tabOk (parts := []) (cells := (u8s zero8).toArray) rfl rfl rfl rfl rfl rfl) ?_
  refine Run.a (Val.eqU (m := 8) (a := a) (b := zero8) tabOk rfl rfl rfl (by kernel_rfl) (by kernel_rfl) rfl rfl ha rfl) ?_
  refine Run.a (Val.of rfl) ?_
  refine Run.nil (RQ.next ?_)
  refine RC.ret ?_; (repeat first | refine RQ.thenRet ?_ | refine RQ.blockRet ?_); exact RQ.ret1 rfl (Res.tmp rfl) fun w' hm => ⟨rfl, hm.fr⟩

set_option maxRecDepth 10000 in set_option maxHeartbeats 4000000 in
theorem Index_calls (l : List (List Nat)) (hH : HL l) (hll : l.length ≤ 9223372036854775807) (x : List Nat) (hx8 : x.length = 8) (v : Value) (w : World) (hs : SrcW w 8 v l.length (u8s l.flatten)) :
    Calls Tryz.prog 167 #[v, .agg (u8s x).toArray] w fun e w' => ∃ z : Int, e = .returned (.int .i64 z) ∧ (0 ≤ z ↔ x ∈ l) ∧ Fr [] w w' := by
  refine enter Tryz.func167 rfl (Mem.nil w []) rfl ?_
  obtain ⟨va, vc, rfl, hvc⟩ := hs.shape
  (repeat refine RC.seq ?_); refine RC.region ?_
  refine Run.nw (New.boxA rfl rfl) ?_
  intro b3
  refine Run.a (Val.of rfl) ?_
  refine Run.nil (RQ.next ?_)
  (repeat refine RC.seq ?_); refine RC.region ?_
  refine Run.a (Val.of rfl) ?_
  refine Run.a (Val.len (len := l.length) tabOk rfl rfl rfl rfl) ?_
  refine Run.a (Val.of rfl) ?_
  refine Run.nil (RQ.next ?_)
  (repeat refine RC.seq ?_); refine RC.block ?_
  refine RC.up l.length (D := Unit) (fun i _ => x ∉ l.take i) (fun i _ => [(8, .int .i64 i), (7, .int .i64 l.length), (3, .pointer (some ⟨b3, 0, none⟩)), (0, .slice va l.length vc)])
    (fun _ _ => [(b3, .cells (u8s x).toArray 23 (0, 0))]) 0 () (Nat.zero_le _) (by simp) ⟨rfl, rfl, rfl, rfl, trivial⟩ (List.Sublist.refl _) ?_
  intro i _ hi hno
  (repeat refine RC.seq ?_); refine RC.region ?_
  refine Run.a (Val.of rfl) ?_
  refine Run.nil (RQ.next ?_)
  (repeat refine RC.seq ?_); refine RC.wh rfl (fun h => RQ.next ?_) (fun h => ?_)
  · have hi' : i < l.length := by have := of_decide_eq_true h; omega
    clear h
    obtain ⟨y, hy⟩ : ∃ y, l[i]? = some y := ⟨_, List.getElem?_eq_getElem hi'⟩
    have hy8 := hH y (List.mem_of_getElem? hy)
    obtain ⟨ad, c, hv, hc, hcl, hr⟩ := hs.pos (by omega)
    cases hv
    have hload := hashAt hH hr hy
    (repeat refine RC.seq ?_); refine RC.block ?_
    (repeat refine RC.seq ?_); refine RC.region ?_
    refine Run.a (Val.of rfl) ?_
    refine Run.a (Val.of rfl) ?_
    refine Run.nil (RQ.next ?_)
    (repeat refine RC.seq ?_); refine RC.drawS mixed (N := 6) rfl ?_
    refine DR.t 0 rfl (Val.loadU tabOk rfl rfl rfl rfl m0 hx8) ?_
    refine DR.t 1 rfl (Val.of rfl) ?_
    refine DR.t 2 rfl (Val.of rfl) ?_
    refine DR.t 3 rfl (Val.ixS tabOk i (ad' := ad.add (i * 8)) rfl rfl rfl rfl rfl rfl rfl hi' rfl) ?_
    refine DR.t 4 rfl (Val.loadOld tabOk (cs := u8s y) rfl rfl rfl rfl (by simp) (by rw [u8s_len, hy8.1]; rfl) hload) ?_
    refine DR.t 5 rfl (Val.eqU (m := 8) (a := x) (b := y) tabOk rfl rfl rfl (by kernel_rfl) (by kernel_rfl) rfl rfl hx8 hy8.1) ?_
    refine DR.done (by kernel_rfl) (RQ.next ?_)
    (repeat refine RC.seq ?_); refine RC.cond rfl (fun h => ?_) (fun h => ?_)
    · have h1 := of_decide_eq_true h
      (repeat refine RC.seq ?_); refine RC.region ?_
      refine Run.a (Val.of rfl) ?_
      refine Run.a (Val.of rfl) ?_
      refine Run.nil (RQ.next ?_)
      refine RC.ret ?_; (repeat first | refine RQ.thenRet ?_ | refine RQ.blockRet ?_)
      exact RQ.ret1 rfl (Res.tmp rfl) fun w' hm => ⟨_, rfl, ⟨fun _ => by rw [h1]; exact List.mem_of_getElem? hy, fun _ => by omega⟩, hm.fr⟩
    · have h1 := of_decide_eq_false h
      refine RC.skip (RQ.blockNormal (RQ.next ?_))
      refine RC.region ?_
      repeat (first | refine Run.a Val.ra ?_ | refine Run.a (Val.of rfl) ?_)
      refine Run.nil (RQ.up (i + 1) () (Nat.lt_succ_self _) hi' ?_ ⟨rfl, rfl, rfl, rfl, trivial⟩ (List.Sublist.refl _))
      rw [List.take_add_one, hy]
      simp only [List.mem_append, not_or]
      exact ⟨hno, by simpa using h1⟩
  · have hi' : i = l.length := by have := of_decide_eq_false h; omega
    subst hi'
    rw [List.take_length] at hno
    (repeat refine RQ.thenExit ?_); refine RQ.blockHere ?_
    refine RQ.next ?_
    (repeat refine RC.seq ?_); refine RC.region ?_
    refine Run.a (Val.of rfl) ?_
    refine Run.nil (RQ.next ?_)
    refine RC.ret ?_; (repeat first | refine RQ.thenRet ?_ | refine RQ.blockRet ?_)
    exact RQ.ret1 rfl (Res.tmp rfl) fun w' hm => ⟨_, rfl, ⟨fun h => absurd h (by decide), fun h => absurd h hno⟩, hm.fr⟩

set_option maxRecDepth 10000 in set_option maxHeartbeats 4000000 in
theorem Contains_calls (l : List (List Nat)) (hH : HL l) (hll : l.length ≤ 9223372036854775807) (x : List Nat) (hx8 : x.length = 8) (v : Value) (w : World) (hs : SrcW w 8 v l.length (u8s l.flatten)) :
    Gives Tryz.prog 160 [v, .agg (u8s x).toArray] (.bool (decide (x ∈ l))) w := by
  refine enter Tryz.func160 rfl (Mem.nil w []) rfl ?_
  (repeat refine RC.seq ?_); refine RC.region ?_
  refine Run.nw (New.boxA rfl rfl) ?_
  intro b3
  refine Run.a (Val.of rfl) ?_
  refine Run.nil (RQ.next ?_)
  (repeat refine RC.seq ?_); refine RC.region ?_
  refine Run.a (Val.of rfl) ?_
  refine Run.a (Val.loadU tabOk rfl rfl rfl rfl m0 hx8) ?_
  refine Run.op rfl (OpTo.call (Y := {z : Int // (0 ≤ z ↔ x ∈ l)}) (V := fun y => .int .i64 y.1) (L' := fun _ => _) Tryz.func167 rfl rfl rfl rfl rfl rfl (fun w' hm => (Index_calls l hH hll x hx8 v w' (hs.mem hm)).mono (by
    rintro e' w2 ⟨z, rfl, hz, hf⟩
    exact ⟨⟨z, hz⟩, rfl, hm.ext hf⟩))) ?_
  rintro ⟨z, hz⟩
  refine Run.a (Val.eq (Val.of rfl) (show _ = Value.bool (decide (x ∈ l)) from congrArg Value.bool (by rw [decide_eq_decide]; exact hz))) ?_
  refine Run.a (Val.of rfl) ?_
  refine Run.nil (RQ.next ?_)
  refine RC.ret ?_; (repeat first | refine RQ.thenRet ?_ | refine RQ.blockRet ?_); exact RQ.ret1 rfl (Res.tmp rfl) fun w' hm => ⟨rfl, hm.fr⟩

set_option maxRecDepth 10000 in set_option maxHeartbeats 4000000 in
theorem May_calls (ln wd nd : Int) (l : List (List Nat)) (hH : HL l) (hll : l.length ≤ 9223372036854775807) (v : Value) (w : World) (hs : SrcW w 8 v l.length (u8s l.flatten)) :
    Gives Tryz.prog 128 [.agg (prm ln wd nd v).toArray] (.bool (mayP ln wd nd l)) w := by
  refine enter Tryz.func128 rfl (Mem.nil w []) rfl ?_
  obtain ⟨va, vc, rfl, hvc⟩ := hs.shape
  (repeat refine RC.seq ?_); refine RC.region ?_
  refine Run.nw (New.boxA rfl rfl) ?_
  intro b1
  refine Run.a (Val.of rfl) ?_
  refine Run.nil (RQ.next ?_)
  (repeat refine RC.seq ?_); refine RC.region ?_
  refine Run.a (Val.fieldAddr tabOk rfl rfl rfl rfl rfl rfl rfl rfl) ?_
  refine Run.a (Val.load (v := .slice va l.length vc) tabOk rfl rfl rfl m0 rfl) ?_
  refine Run.a (Val.len (len := l.length) tabOk rfl rfl rfl rfl) ?_
  refine Run.a (Val.of rfl) ?_
  refine Run.nil (RQ.next ?_)
  by_cases h0 : l.length < 1
  · rw [mayP_bad (by omega)]
    (repeat refine RC.seq ?_); refine RC.region ?_
    refine Run.a (Val.of rfl) ?_
    refine Run.a (Val.eq (Val.of rfl) (show _ = Value.bool true from congrArg Value.bool (decide_eq_true (by omega)))) ?_
    refine Run.a (Val.of rfl) ?_
    refine Run.sk ?_
    refine Run.sk ?_
    refine Run.a (Val.of rfl) ?_
    refine Run.a (Val.of rfl) ?_
    refine Run.sk ?_
    refine Run.sk ?_
    refine Run.sk ?_
    refine Run.a (Val.of rfl) ?_
    refine Run.a (Val.of rfl) ?_
    refine Run.sk ?_
    refine Run.sk ?_
    refine Run.sk ?_
    refine Run.sk ?_
    refine Run.a (Val.of rfl) ?_
    refine Run.nil (RQ.next ?_)
    (repeat refine RC.seq ?_); refine RC.condT rfl rfl ?_
    (repeat refine RC.seq ?_); refine RC.region ?_
    refine Run.a (Val.of rfl) ?_
    refine Run.nil (RQ.next ?_)
    refine RC.ret ?_; (repeat first | refine RQ.thenRet ?_ | refine RQ.blockRet ?_); exact RQ.ret1 rfl (Res.tmp rfl) fun w' hm => ⟨rfl, hm.fr⟩
  by_cases h1 : 5 < l.length
  · rw [mayP_bad (by omega)]
    (repeat refine RC.seq ?_); refine RC.region ?_
    refine Run.a (Val.of rfl) ?_
    refine Run.a (Val.eq (Val.of rfl) (show _ = Value.bool false from congrArg Value.bool (decide_eq_false (by omega)))) ?_
    refine Run.a (Val.of rfl) ?_
    refine Run.a (Val.of rfl) ?_
    refine Run.a (Val.eq (Val.of rfl) (show _ = Value.bool true from congrArg Value.bool (decide_eq_true (by omega)))) ?_
    refine Run.a (Val.of rfl) ?_
    refine Run.a (Val.of rfl) ?_
    refine Run.sk ?_
    refine Run.sk ?_
    refine Run.sk ?_
    refine Run.a (Val.of rfl) ?_
    refine Run.a (Val.of rfl) ?_
    refine Run.sk ?_
    refine Run.sk ?_
    refine Run.sk ?_
    refine Run.sk ?_
    refine Run.a (Val.of rfl) ?_
    refine Run.nil (RQ.next ?_)
    (repeat refine RC.seq ?_); refine RC.condT rfl rfl ?_
    (repeat refine RC.seq ?_); refine RC.region ?_
    refine Run.a (Val.of rfl) ?_
    refine Run.nil (RQ.next ?_)
    refine RC.ret ?_; (repeat first | refine RQ.thenRet ?_ | refine RQ.blockRet ?_); exact RQ.ret1 rfl (Res.tmp rfl) fun w' hm => ⟨rfl, hm.fr⟩
  by_cases h2 : nd < 1
  · rw [mayP_bad (by omega)]
    (repeat refine RC.seq ?_); refine RC.region ?_
    refine Run.a (Val.of rfl) ?_
    refine Run.a (Val.eq (Val.of rfl) (show _ = Value.bool false from congrArg Value.bool (decide_eq_false (by omega)))) ?_
    refine Run.a (Val.of rfl) ?_
    refine Run.a (Val.of rfl) ?_
    refine Run.a (Val.eq (Val.of rfl) (show _ = Value.bool false from congrArg Value.bool (decide_eq_false (by omega)))) ?_
    refine Run.a (Val.of rfl) ?_
    refine Run.a (Val.of rfl) ?_
    refine Run.a (Val.fieldAddr tabOk rfl rfl rfl rfl rfl rfl rfl rfl) ?_
    refine Run.a (Val.load (v := .int .i64 nd) tabOk rfl rfl rfl m0 rfl) ?_
    refine Run.a (Val.eq (Val.of rfl) (show _ = Value.bool true from congrArg Value.bool (decide_eq_true (by omega)))) ?_
    refine Run.a (Val.of rfl) ?_
    refine Run.a (Val.of rfl) ?_
    refine Run.sk ?_
    refine Run.sk ?_
    refine Run.sk ?_
    refine Run.sk ?_
    refine Run.a (Val.of rfl) ?_
    refine Run.nil (RQ.next ?_)
    (repeat refine RC.seq ?_); refine RC.condT rfl rfl ?_
    (repeat refine RC.seq ?_); refine RC.region ?_
    refine Run.a (Val.of rfl) ?_
    refine Run.nil (RQ.next ?_)
    refine RC.ret ?_; (repeat first | refine RQ.thenRet ?_ | refine RQ.blockRet ?_); exact RQ.ret1 rfl (Res.tmp rfl) fun w' hm => ⟨rfl, hm.fr⟩
  by_cases h3 : (l.length : Int) < nd
  · rw [mayP_bad (by omega)]
    (repeat refine RC.seq ?_); refine RC.region ?_
    refine Run.a (Val.of rfl) ?_
    refine Run.a (Val.eq (Val.of rfl) (show _ = Value.bool false from congrArg Value.bool (decide_eq_false (by omega)))) ?_
    refine Run.a (Val.of rfl) ?_
    refine Run.a (Val.of rfl) ?_
    refine Run.a (Val.eq (Val.of rfl) (show _ = Value.bool false from congrArg Value.bool (decide_eq_false (by omega)))) ?_
    refine Run.a (Val.of rfl) ?_
    refine Run.a (Val.of rfl) ?_
    refine Run.a (Val.fieldAddr tabOk rfl rfl rfl rfl rfl rfl rfl rfl) ?_
    refine Run.a (Val.load (v := .int .i64 nd) tabOk rfl rfl rfl m0 rfl) ?_
    refine Run.a (Val.eq (Val.of rfl) (show _ = Value.bool false from congrArg Value.bool (decide_eq_false (by omega)))) ?_
    refine Run.a (Val.of rfl) ?_
    refine Run.a (Val.of rfl) ?_
    refine Run.a (Val.fieldAddr tabOk rfl rfl rfl rfl rfl rfl rfl rfl) ?_
    refine Run.a (Val.load (v := .int .i64 nd) tabOk rfl rfl rfl m0 rfl) ?_
    refine Run.a (Val.of rfl) ?_
    refine Run.a (Val.eq (Val.of rfl) (show _ = Value.bool true from congrArg Value.bool (decide_eq_true (by omega)))) ?_
    refine Run.a (Val.of rfl) ?_
    refine Run.nil (RQ.next ?_)
    (repeat refine RC.seq ?_); refine RC.condT rfl rfl ?_
    (repeat refine RC.seq ?_); refine RC.region ?_
    refine Run.a (Val.of rfl) ?_
    refine Run.nil (RQ.next ?_)
    refine RC.ret ?_; (repeat first | refine RQ.thenRet ?_ | refine RQ.blockRet ?_); exact RQ.ret1 rfl (Res.tmp rfl) fun w' hm => ⟨rfl, hm.fr⟩
  (repeat refine RC.seq ?_); refine RC.region ?_
  refine Run.a (Val.of rfl) ?_
  refine Run.a (Val.eq (Val.of rfl) (show _ = Value.bool false from congrArg Value.bool (decide_eq_false (by omega)))) ?_
  refine Run.a (Val.of rfl) ?_
  refine Run.a (Val.of rfl) ?_
  refine Run.a (Val.eq (Val.of rfl) (show _ = Value.bool false from congrArg Value.bool (decide_eq_false (by omega)))) ?_
  refine Run.a (Val.of rfl) ?_
  refine Run.a (Val.of rfl) ?_
  refine Run.a (Val.fieldAddr tabOk rfl rfl rfl rfl rfl rfl rfl rfl) ?_
  refine Run.a (Val.load (v := .int .i64 nd) tabOk rfl rfl rfl m0 rfl) ?_
  refine Run.a (Val.eq (Val.of rfl) (show _ = Value.bool false from congrArg Value.bool (decide_eq_false (by omega)))) ?_
  refine Run.a (Val.of rfl) ?_
  refine Run.a (Val.of rfl) ?_
  refine Run.a (Val.fieldAddr tabOk rfl rfl rfl rfl rfl rfl rfl rfl) ?_
  refine Run.a (Val.load (v := .int .i64 nd) tabOk rfl rfl rfl m0 rfl) ?_
  refine Run.a (Val.of rfl) ?_
  refine Run.a (Val.eq (Val.of rfl) (show _ = Value.bool false from congrArg Value.bool (decide_eq_false (by omega)))) ?_
  refine Run.a (Val.of rfl) ?_
  refine Run.nil (RQ.next ?_)
  (repeat refine RC.seq ?_); refine RC.condF rfl rfl (RC.skip (RQ.next ?_))
  have hcond : 1 ≤ l.length ∧ l.length ≤ 5 ∧ 1 ≤ nd ∧ nd ≤ l.length := by omega
  obtain ⟨ad, c, hv, hc, hcl, hr⟩ := hs.pos (by omega)
  cases hv
  (repeat refine RC.seq ?_); refine RC.region ?_
  refine Run.a (Val.fieldAddr tabOk rfl rfl rfl rfl rfl rfl rfl rfl) ?_
  refine Run.a (Val.load (v := .slice (some ad) l.length vc) tabOk rfl rfl rfl m0 rfl) ?_
  refine Run.a (Val.len (len := l.length) tabOk rfl rfl rfl rfl) ?_
  refine Run.a (Val.of rfl) ?_
  refine Run.nil (RQ.next ?_)
  (repeat refine RC.seq ?_); refine RC.block ?_
  refine RC.up l.length (D := Unit) (fun i _ => zero8 ∉ l.take i ∧ (l.take i).Nodup) (fun i _ => [(29, .int .i64 i), (28, .int .i64 l.length), (27, .slice (some ad) l.length vc), (1, .pointer (some ⟨b1, 0, none⟩))])
    (fun _ _ => [(b1, .cells (prm ln wd nd (.slice (some ad) l.length vc)).toArray 54 (0, 0))]) 0 () (Nat.zero_le _) (by simp) ⟨rfl, rfl, rfl, rfl, trivial⟩ (List.Sublist.refl _) ?_
  intro i _ hi hok
  (repeat refine RC.seq ?_); refine RC.region ?_
  refine Run.a (Val.of rfl) ?_
  refine Run.nil (RQ.next ?_)
  (repeat refine RC.seq ?_); refine RC.wh rfl (fun h => RQ.next ?_) (fun h => ?_)
  · have hi' : i < l.length := by have := of_decide_eq_true h; omega
    clear h
    obtain ⟨y, hy⟩ : ∃ y, l[i]? = some y := ⟨_, List.getElem?_eq_getElem hi'⟩
    have hy8 := hH y (List.mem_of_getElem? hy)
    have hload := hashAt hH hr hy
    have hsl : SrcW w 8 (.slice (some ad) i vc) (l.take i).length (u8s (l.take i).flatten) := by
      rw [List.length_take, Nat.min_eq_left (by omega), flatten_take _ hH, u8s_take]
      exact SrcW.takeN hcl hr (by omega) hc
    (repeat refine RC.seq ?_); refine RC.block ?_
    (repeat refine RC.seq ?_); refine RC.region ?_
    refine Run.a (Val.of rfl) ?_
    refine Run.a (Val.ixS tabOk i (ad' := ad.add (i * 8)) rfl rfl rfl rfl rfl rfl rfl hi' rfl) ?_
    refine Run.a (Val.loadOld tabOk (cs := u8s y) rfl rfl rfl rfl (by simp) (by rw [u8s_len, hy8.1]; rfl) hload) ?_
    refine Run.nw (New.alloc tabOk rfl rfl) ?_
    intro b5
    refine Run.a (Val.of rfl) ?_
    refine Run.op1 (OpTo.setAll tabOk rfl rfl rfl rfl rfl (List.Perm.refl _) hy8.1 rfl) (fun _ => ?_)
    refine Run.nil (RQ.next ?_)
    (repeat refine RC.seq ?_); refine RC.drawS mixed (N := 10) rfl ?_
    refine DR.t 0 rfl (Val.loadU tabOk rfl rfl rfl rfl m0 hy8.1) ?_
    refine DR.c 1 ?_
    refine DOp.op1 rfl (OpTo.callV Tryz.func155 rfl rfl rfl rfl rfl rfl (fun w' _ => Zero_calls y hy8.1 w')) (fun _ => ?_)
    by_cases hz : y = zero8
    · rw [mayP_keys (kOk_bad hy (.inl hz)), decide_eq_true (show y = List.replicate 8 0 from hz)]
      refine DR.t 2 rfl (Val.of rfl) ?_
      refine DR.p 3 rfl ?_
      refine DR.p 4 rfl ?_
      refine DR.p 5 rfl ?_
      refine DR.p 6 rfl ?_
      refine DR.p 7 rfl ?_
      refine DR.cp 8 rfl ?_
      refine DR.t 9 rfl (Val.of rfl) ?_
      refine DR.done (by kernel_rfl) (RQ.next ?_)
      (repeat refine RC.seq ?_); refine RC.condT rfl rfl ?_
      (repeat refine RC.seq ?_); refine RC.region ?_
      refine Run.a (Val.of rfl) ?_
      refine Run.nil (RQ.next ?_)
      refine RC.ret ?_; (repeat first | refine RQ.thenRet ?_ | refine RQ.blockRet ?_); exact RQ.ret1 rfl (Res.tmp rfl) fun w' hm => ⟨rfl, hm.fr⟩
    · rw [decide_eq_false (show ¬ y = List.replicate 8 0 from hz)]
      refine DR.t 2 rfl (Val.of rfl) ?_
      refine DR.t 3 rfl (Val.fieldAddr tabOk rfl rfl rfl rfl rfl rfl rfl rfl) ?_
      refine DR.t 4 rfl (Val.load (v := .slice (some ad) l.length vc) tabOk rfl rfl rfl m1 rfl) ?_
      refine DR.t 5 rfl (Val.of rfl) ?_
      refine DR.t 6 rfl (Val.eq (Val.sliceS' tabOk 0 i rfl rfl rfl rfl rfl (.inl ⟨rfl, rfl⟩) (.inr ⟨_, rfl, rfl⟩) (by omega) (by omega) (by omega) rfl) (show _ = Value.slice (some ad) i vc from by rw [Nat.zero_mul, add_zero_, Nat.sub_zero, Nat.sub_zero])) ?_
      refine DR.t 7 rfl (Val.loadU tabOk rfl rfl rfl rfl m0 hy8.1) ?_
      refine DR.c 8 ?_
      refine DOp.op1 rfl (OpTo.callV Tryz.func160 rfl rfl rfl rfl rfl rfl (fun w' hm => Contains_calls _ (hH.take i) (by rw [List.length_take]; omega) y hy8.1 _ w' (hsl.mem hm))) (fun _ => ?_)
      refine DR.t 9 rfl (Val.of rfl) ?_
      refine DR.done (by kernel_rfl) (RQ.next ?_)
      (repeat refine RC.seq ?_); refine RC.cond rfl (fun h => ?_) (fun h => ?_)
      · have h1 := of_decide_eq_true h
        rw [mayP_keys (kOk_bad hy (.inr h1))]
        (repeat refine RC.seq ?_); refine RC.region ?_
        refine Run.a (Val.of rfl) ?_
        refine Run.nil (RQ.next ?_)
        refine RC.ret ?_; (repeat first | refine RQ.thenRet ?_ | refine RQ.blockRet ?_); exact RQ.ret1 rfl (Res.tmp rfl) fun w' hm => ⟨rfl, hm.fr⟩
      · have h1 := of_decide_eq_false h
        refine RC.skip (RQ.blockNormal (RQ.next ?_))
        refine RC.region ?_
        repeat (first | refine Run.a Val.ra ?_ | refine Run.a (Val.of rfl) ?_)
        exact Run.nil (RQ.up (i + 1) () (Nat.lt_succ_self _) hi' (kOk_step hy hok hz h1) ⟨rfl, rfl, rfl, rfl, trivial⟩ (List.Sublist.cons _ (List.Sublist.refl _)))
  · have hi' : i = l.length := by have := of_decide_eq_false h; omega
    subst hi'
    have hk := kOk_good hok
    (repeat refine RQ.thenExit ?_); refine RQ.blockHere ?_
    refine RQ.next ?_
    by_cases g0 : ¬ 2 ≤ ln
    · rw [mayP_time (by omega)]
      (repeat refine RC.seq ?_); refine RC.region ?_
      refine Run.a (Val.fieldAddr tabOk rfl rfl rfl rfl rfl rfl rfl rfl) ?_
      refine Run.a (Val.load (v := .int .i64 ln) tabOk rfl rfl rfl m0 rfl) ?_
      refine Run.a (Val.eq (Val.of rfl) (show _ = Value.bool false from congrArg Value.bool (decide_eq_false (by omega)))) ?_
      refine Run.a (Val.of rfl) ?_
      refine Run.sk ?_
      refine Run.sk ?_
      refine Run.sk ?_
      refine Run.a (Val.of rfl) ?_
      refine Run.a (Val.of rfl) ?_
      refine Run.sk ?_
      refine Run.sk ?_
      refine Run.sk ?_
      refine Run.a (Val.of rfl) ?_
      refine Run.a (Val.of rfl) ?_
      refine Run.sk ?_
      refine Run.sk ?_
      refine Run.sk ?_
      refine Run.sk ?_
      refine Run.sk ?_
      refine Run.a (Val.of rfl) ?_
      refine Run.a (Val.of rfl) ?_
      refine Run.nil (RQ.next ?_)
      refine RC.ret ?_; (repeat first | refine RQ.thenRet ?_ | refine RQ.blockRet ?_); exact RQ.ret1 rfl (Res.tmp rfl) fun w' hm => ⟨rfl, hm.fr⟩
    by_cases g1 : ¬ ln ≤ 64
    · rw [mayP_time (by omega)]
      (repeat refine RC.seq ?_); refine RC.region ?_
      refine Run.a (Val.fieldAddr tabOk rfl rfl rfl rfl rfl rfl rfl rfl) ?_
      refine Run.a (Val.load (v := .int .i64 ln) tabOk rfl rfl rfl m0 rfl) ?_
      refine Run.a (Val.eq (Val.of rfl) (show _ = Value.bool true from congrArg Value.bool (decide_eq_true (by omega)))) ?_
      refine Run.a (Val.of rfl) ?_
      refine Run.a (Val.fieldAddr tabOk rfl rfl rfl rfl rfl rfl rfl rfl) ?_
      refine Run.a (Val.load (v := .int .i64 ln) tabOk rfl rfl rfl m0 rfl) ?_
      refine Run.a (Val.eq (Val.of rfl) (show _ = Value.bool false from congrArg Value.bool (decide_eq_false (by omega)))) ?_
      refine Run.a (Val.of rfl) ?_
      refine Run.a (Val.of rfl) ?_
      refine Run.sk ?_
      refine Run.sk ?_
      refine Run.sk ?_
      refine Run.a (Val.of rfl) ?_
      refine Run.a (Val.of rfl) ?_
      refine Run.sk ?_
      refine Run.sk ?_
      refine Run.sk ?_
      refine Run.sk ?_
      refine Run.sk ?_
      refine Run.a (Val.of rfl) ?_
      refine Run.a (Val.of rfl) ?_
      refine Run.nil (RQ.next ?_)
      refine RC.ret ?_; (repeat first | refine RQ.thenRet ?_ | refine RQ.blockRet ?_); exact RQ.ret1 rfl (Res.tmp rfl) fun w' hm => ⟨rfl, hm.fr⟩
    by_cases g2 : ¬ 1 ≤ wd
    · rw [mayP_time (by omega)]
      (repeat refine RC.seq ?_); refine RC.region ?_
      refine Run.a (Val.fieldAddr tabOk rfl rfl rfl rfl rfl rfl rfl rfl) ?_
      refine Run.a (Val.load (v := .int .i64 ln) tabOk rfl rfl rfl m0 rfl) ?_
      refine Run.a (Val.eq (Val.of rfl) (show _ = Value.bool true from congrArg Value.bool (decide_eq_true (by omega)))) ?_
      refine Run.a (Val.of rfl) ?_
      refine Run.a (Val.fieldAddr tabOk rfl rfl rfl rfl rfl rfl rfl rfl) ?_
      refine Run.a (Val.load (v := .int .i64 ln) tabOk rfl rfl rfl m0 rfl) ?_
      refine Run.a (Val.eq (Val.of rfl) (show _ = Value.bool true from congrArg Value.bool (decide_eq_true (by omega)))) ?_
      refine Run.a (Val.of rfl) ?_
      refine Run.a (Val.of rfl) ?_
      refine Run.a (Val.fieldAddr tabOk rfl rfl rfl rfl rfl rfl rfl rfl) ?_
      refine Run.a (Val.load (v := .int .i64 wd) tabOk rfl rfl rfl m0 rfl) ?_
      refine Run.a (Val.eq (Val.of rfl) (show _ = Value.bool false from congrArg Value.bool (decide_eq_false (by omega)))) ?_
      refine Run.a (Val.of rfl) ?_
      refine Run.a (Val.of rfl) ?_
      refine Run.sk ?_
      refine Run.sk ?_
      refine Run.sk ?_
      refine Run.sk ?_
      refine Run.sk ?_
      refine Run.a (Val.of rfl) ?_
      refine Run.a (Val.of rfl) ?_
      refine Run.nil (RQ.next ?_)
      refine RC.ret ?_; (repeat first | refine RQ.thenRet ?_ | refine RQ.blockRet ?_); exact RQ.ret1 rfl (Res.tmp rfl) fun w' hm => ⟨rfl, hm.fr⟩
    by_cases g3 : ¬ wd ≤ ln
    · rw [mayP_time (by omega)]
      (repeat refine RC.seq ?_); refine RC.region ?_
      refine Run.a (Val.fieldAddr tabOk rfl rfl rfl rfl rfl rfl rfl rfl) ?_
      refine Run.a (Val.load (v := .int .i64 ln) tabOk rfl rfl rfl m0 rfl) ?_
      refine Run.a (Val.eq (Val.of rfl) (show _ = Value.bool true from congrArg Value.bool (decide_eq_true (by omega)))) ?_
      refine Run.a (Val.of rfl) ?_
      refine Run.a (Val.fieldAddr tabOk rfl rfl rfl rfl rfl rfl rfl rfl) ?_
      refine Run.a (Val.load (v := .int .i64 ln) tabOk rfl rfl rfl m0 rfl) ?_
      refine Run.a (Val.eq (Val.of rfl) (show _ = Value.bool true from congrArg Value.bool (decide_eq_true (by omega)))) ?_
      refine Run.a (Val.of rfl) ?_
      refine Run.a (Val.of rfl) ?_
      refine Run.a (Val.fieldAddr tabOk rfl rfl rfl rfl rfl rfl rfl rfl) ?_
      refine Run.a (Val.load (v := .int .i64 wd) tabOk rfl rfl rfl m0 rfl) ?_
      refine Run.a (Val.eq (Val.of rfl) (show _ = Value.bool true from congrArg Value.bool (decide_eq_true (by omega)))) ?_
      refine Run.a (Val.of rfl) ?_
      refine Run.a (Val.of rfl) ?_
      refine Run.a (Val.fieldAddr tabOk rfl rfl rfl rfl rfl rfl rfl rfl) ?_
      refine Run.a (Val.load (v := .int .i64 wd) tabOk rfl rfl rfl m0 rfl) ?_
      refine Run.a (Val.fieldAddr tabOk rfl rfl rfl rfl rfl rfl rfl rfl) ?_
      refine Run.a (Val.load (v := .int .i64 ln) tabOk rfl rfl rfl m0 rfl) ?_
      refine Run.a (Val.eq (Val.of rfl) (show _ = Value.bool false from congrArg Value.bool (decide_eq_false (by omega)))) ?_
      refine Run.a (Val.of rfl) ?_
      refine Run.a (Val.of rfl) ?_
      refine Run.nil (RQ.next ?_)
      refine RC.ret ?_; (repeat first | refine RQ.thenRet ?_ | refine RQ.blockRet ?_); exact RQ.ret1 rfl (Res.tmp rfl) fun w' hm => ⟨rfl, hm.fr⟩
    rw [mayP_good hcond hk (by omega)]
    (repeat refine RC.seq ?_); refine RC.region ?_
    refine Run.a (Val.fieldAddr tabOk rfl rfl rfl rfl rfl rfl rfl rfl) ?_
    refine Run.a (Val.load (v := .int .i64 ln) tabOk rfl rfl rfl m0 rfl) ?_
    refine Run.a (Val.eq (Val.of rfl) (show _ = Value.bool true from congrArg Value.bool (decide_eq_true (by omega)))) ?_
    refine Run.a (Val.of rfl) ?_
    refine Run.a (Val.fieldAddr tabOk rfl rfl rfl rfl rfl rfl rfl rfl) ?_
    refine Run.a (Val.load (v := .int .i64 ln) tabOk rfl rfl rfl m0 rfl) ?_
    refine Run.a (Val.eq (Val.of rfl) (show _ = Value.bool true from congrArg Value.bool (decide_eq_true (by omega)))) ?_
    refine Run.a (Val.of rfl) ?_
    refine Run.a (Val.of rfl) ?_
    refine Run.a (Val.fieldAddr tabOk rfl rfl rfl rfl rfl rfl rfl rfl) ?_
    refine Run.a (Val.load (v := .int .i64 wd) tabOk rfl rfl rfl m0 rfl) ?_
    refine Run.a (Val.eq (Val.of rfl) (show _ = Value.bool true from congrArg Value.bool (decide_eq_true (by omega)))) ?_
    refine Run.a (Val.of rfl) ?_
    refine Run.a (Val.of rfl) ?_
    refine Run.a (Val.fieldAddr tabOk rfl rfl rfl rfl rfl rfl rfl rfl) ?_
    refine Run.a (Val.load (v := .int .i64 wd) tabOk rfl rfl rfl m0 rfl) ?_
    refine Run.a (Val.fieldAddr tabOk rfl rfl rfl rfl rfl rfl rfl rfl) ?_
    refine Run.a (Val.load (v := .int .i64 ln) tabOk rfl rfl rfl m0 rfl) ?_
    refine Run.a (Val.eq (Val.of rfl) (show _ = Value.bool true from congrArg Value.bool (decide_eq_true (by omega)))) ?_
    refine Run.a (Val.of rfl) ?_
    refine Run.a (Val.of rfl) ?_
    refine Run.nil (RQ.next ?_)
    refine RC.ret ?_; (repeat first | refine RQ.thenRet ?_ | refine RQ.blockRet ?_); exact RQ.ret1 rfl (Res.tmp rfl) fun w' hm => ⟨rfl, hm.fr⟩

set_option maxRecDepth 10000 in set_option maxHeartbeats 4000000 in
theorem MayParams_calls (ln wd nd : Int) (l : List (List Nat)) (hH : HL l) (hll : l.length ≤ 9223372036854775807) (v : Value) (w : World) (hs : SrcW w 8 v l.length (u8s l.flatten)) :
    Gives Tryz.prog 87 [.agg (prm ln wd nd v).toArray] (.bool (mayP ln wd nd l)) w := by
  refine enter Tryz.func87 rfl (Mem.nil w []) rfl ?_
  obtain ⟨va, vc, rfl, hvc⟩ := hs.shape
  (repeat refine RC.seq ?_); refine RC.region ?_
  refine Run.nw (New.boxA rfl rfl) ?_
  intro b1
  refine Run.a (Val.of rfl) ?_
  refine Run.nil (RQ.next ?_)
  by_cases h0 : l.length < 1
  · rw [mayP_bad (by omega)]
    (repeat refine RC.seq ?_); refine RC.region ?_
    refine Run.a (Val.fieldAddr tabOk rfl rfl rfl rfl rfl rfl rfl rfl) ?_
    refine Run.a (Val.load (v := .slice va l.length vc) tabOk rfl rfl rfl m0 rfl) ?_
    refine Run.a (Val.len (len := l.length) tabOk rfl rfl rfl rfl) ?_
    refine Run.a (Val.eq (Val.of rfl) (show _ = Value.bool true from congrArg Value.bool (decide_eq_true (by omega)))) ?_
    refine Run.a (Val.of rfl) ?_
    refine Run.sk ?_
    refine Run.sk ?_
    refine Run.sk ?_
    refine Run.sk ?_
    refine Run.a (Val.of rfl) ?_
    refine Run.a (Val.of rfl) ?_
    refine Run.sk ?_
    refine Run.sk ?_
    refine Run.sk ?_
    refine Run.a (Val.of rfl) ?_
    refine Run.a (Val.of rfl) ?_
    refine Run.sk ?_
    refine Run.sk ?_
    refine Run.sk ?_
    refine Run.sk ?_
    refine Run.sk ?_
    refine Run.sk ?_
    refine Run.a (Val.of rfl) ?_
    refine Run.a (Val.of rfl) ?_
    refine Run.sk ?_
    refine Run.sk ?_
    refine Run.sk ?_
    refine Run.a (Val.of rfl) ?_
    refine Run.a (Val.of rfl) ?_
    refine Run.sk ?_
    refine Run.sk ?_
    refine Run.sk ?_
    refine Run.a (Val.of rfl) ?_
    refine Run.a (Val.of rfl) ?_
    refine Run.sk ?_
    refine Run.sk ?_
    refine Run.sk ?_
    refine Run.a (Val.of rfl) ?_
    refine Run.a (Val.of rfl) ?_
    refine Run.sk ?_
    refine Run.sk ?_
    refine Run.sk ?_
    refine Run.sk ?_
    refine Run.sk ?_
    refine Run.a (Val.of rfl) ?_
    refine Run.nil (RQ.next ?_)
    (repeat refine RC.seq ?_); refine RC.condT rfl rfl ?_
    (repeat refine RC.seq ?_); refine RC.region ?_
    refine Run.a (Val.of rfl) ?_
    refine Run.nil (RQ.next ?_)
    refine RC.ret ?_; (repeat first | refine RQ.thenRet ?_ | refine RQ.blockRet ?_); exact RQ.ret1 rfl (Res.tmp rfl) fun w' hm => ⟨rfl, hm.fr⟩
  by_cases h1 : 5 < l.length
  · rw [mayP_bad (by omega)]
    (repeat refine RC.seq ?_); refine RC.region ?_
    refine Run.a (Val.fieldAddr tabOk rfl rfl rfl rfl rfl rfl rfl rfl) ?_
    refine Run.a (Val.load (v := .slice va l.length vc) tabOk rfl rfl rfl m0 rfl) ?_
    refine Run.a (Val.len (len := l.length) tabOk rfl rfl rfl rfl) ?_
    refine Run.a (Val.eq (Val.of rfl) (show _ = Value.bool false from congrArg Value.bool (decide_eq_false (by omega)))) ?_
    refine Run.a (Val.of rfl) ?_
    refine Run.a (Val.fieldAddr tabOk rfl rfl rfl rfl rfl rfl rfl rfl) ?_
    refine Run.a (Val.load (v := .slice va l.length vc) tabOk rfl rfl rfl m0 rfl) ?_
    refine Run.a (Val.len (len := l.length) tabOk rfl rfl rfl rfl) ?_
    refine Run.a (Val.eq (Val.of rfl) (show _ = Value.bool true from congrArg Value.bool (decide_eq_true (by omega)))) ?_
    refine Run.a (Val.of rfl) ?_
    refine Run.a (Val.of rfl) ?_
    refine Run.sk ?_
    refine Run.sk ?_
    refine Run.sk ?_
    refine Run.a (Val.of rfl) ?_
    refine Run.a (Val.of rfl) ?_
    refine Run.sk ?_
    refine Run.sk ?_
    refine Run.sk ?_
    refine Run.sk ?_
    refine Run.sk ?_
    refine Run.sk ?_
    refine Run.a (Val.of rfl) ?_
    refine Run.a (Val.of rfl) ?_
    refine Run.sk ?_
    refine Run.sk ?_
    refine Run.sk ?_
    refine Run.a (Val.of rfl) ?_
    refine Run.a (Val.of rfl) ?_
    refine Run.sk ?_
    refine Run.sk ?_
    refine Run.sk ?_
    refine Run.a (Val.of rfl) ?_
    refine Run.a (Val.of rfl) ?_
    refine Run.sk ?_
    refine Run.sk ?_
    refine Run.sk ?_
    refine Run.a (Val.of rfl) ?_
    refine Run.a (Val.of rfl) ?_
    refine Run.sk ?_
    refine Run.sk ?_
    refine Run.sk ?_
    refine Run.sk ?_
    refine Run.sk ?_
    refine Run.a (Val.of rfl) ?_
    refine Run.nil (RQ.next ?_)
    (repeat refine RC.seq ?_); refine RC.condT rfl rfl ?_
    (repeat refine RC.seq ?_); refine RC.region ?_
    refine Run.a (Val.of rfl) ?_
    refine Run.nil (RQ.next ?_)
    refine RC.ret ?_; (repeat first | refine RQ.thenRet ?_ | refine RQ.blockRet ?_); exact RQ.ret1 rfl (Res.tmp rfl) fun w' hm => ⟨rfl, hm.fr⟩
  by_cases h2 : nd < 1
  · rw [mayP_bad (by omega)]
    (repeat refine RC.seq ?_); refine RC.region ?_
    refine Run.a (Val.fieldAddr tabOk rfl rfl rfl rfl rfl rfl rfl rfl) ?_
    refine Run.a (Val.load (v := .slice va l.length vc) tabOk rfl rfl rfl m0 rfl) ?_
    refine Run.a (Val.len (len := l.length) tabOk rfl rfl rfl rfl) ?_
    refine Run.a (Val.eq (Val.of rfl) (show _ = Value.bool false from congrArg Value.bool (decide_eq_false (by omega)))) ?_
    refine Run.a (Val.of rfl) ?_
    refine Run.a (Val.fieldAddr tabOk rfl rfl rfl rfl rfl rfl rfl rfl) ?_
    refine Run.a (Val.load (v := .slice va l.length vc) tabOk rfl rfl rfl m0 rfl) ?_
    refine Run.a (Val.len (len := l.length) tabOk rfl rfl rfl rfl) ?_
    refine Run.a (Val.eq (Val.of rfl) (show _ = Value.bool false from congrArg Value.bool (decide_eq_false (by omega)))) ?_
    refine Run.a (Val.of rfl) ?_
    refine Run.a (Val.of rfl) ?_
    refine Run.a (Val.fieldAddr tabOk rfl rfl rfl rfl rfl rfl rfl rfl) ?_
    refine Run.a (Val.load (v := .int .i64 nd) tabOk rfl rfl rfl m0 rfl) ?_
    refine Run.a (Val.eq (Val.of rfl) (show _ = Value.bool true from congrArg Value.bool (decide_eq_true (by omega)))) ?_
    refine Run.a (Val.of rfl) ?_
    refine Run.a (Val.of rfl) ?_
    refine Run.sk ?_
    refine Run.sk ?_
    refine Run.sk ?_
    refine Run.sk ?_
    refine Run.sk ?_
    refine Run.sk ?_
    refine Run.a (Val.of rfl) ?_
    refine Run.a (Val.of rfl) ?_
    refine Run.sk ?_
    refine Run.sk ?_
    refine Run.sk ?_
    refine Run.a (Val.of rfl) ?_
    refine Run.a (Val.of rfl) ?_
    refine Run.sk ?_
    refine Run.sk ?_
    refine Run.sk ?_
    refine Run.a (Val.of rfl) ?_
    refine Run.a (Val.of rfl) ?_
    refine Run.sk ?_
    refine Run.sk ?_
    refine Run.sk ?_
    refine Run.a (Val.of rfl) ?_
    refine Run.a (Val.of rfl) ?_
    refine Run.sk ?_
    refine Run.sk ?_
    refine Run.sk ?_
    refine Run.sk ?_
    refine Run.sk ?_
    refine Run.a (Val.of rfl) ?_
    refine Run.nil (RQ.next ?_)
    (repeat refine RC.seq ?_); refine RC.condT rfl rfl ?_
    (repeat refine RC.seq ?_); refine RC.region ?_
    refine Run.a (Val.of rfl) ?_
    refine Run.nil (RQ.next ?_)
    refine RC.ret ?_; (repeat first | refine RQ.thenRet ?_ | refine RQ.blockRet ?_); exact RQ.ret1 rfl (Res.tmp rfl) fun w' hm => ⟨rfl, hm.fr⟩
  by_cases h3 : (l.length : Int) < nd
  · rw [mayP_bad (by omega)]
    (repeat refine RC.seq ?_); refine RC.region ?_
    refine Run.a (Val.fieldAddr tabOk rfl rfl rfl rfl rfl rfl rfl rfl) ?_
    refine Run.a (Val.load (v := .slice va l.length vc) tabOk rfl rfl rfl m0 rfl) ?_
    refine Run.a (Val.len (len := l.length) tabOk rfl rfl rfl rfl) ?_
    refine Run.a (Val.eq (Val.of rfl) (show _ = Value.bool false from congrArg Value.bool (decide_eq_false (by omega)))) ?_
    refine Run.a (Val.of rfl) ?_
    refine Run.a (Val.fieldAddr tabOk rfl rfl rfl rfl rfl rfl rfl rfl) ?_
    refine Run.a (Val.load (v := .slice va l.length vc) tabOk rfl rfl rfl m0 rfl) ?_
    refine Run.a (Val.len (len := l.length) tabOk rfl rfl rfl rfl) ?_
    refine Run.a (Val.eq (Val.of rfl) (show _ = Value.bool false from congrArg Value.bool (decide_eq_false (by omega)))) ?_
    refine Run.a (Val.of rfl) ?_
    refine Run.a (Val.of rfl) ?_
    refine Run.a (Val.fieldAddr tabOk rfl rfl rfl rfl rfl rfl rfl rfl) ?_
    refine Run.a (Val.load (v := .int .i64 nd) tabOk rfl rfl rfl m0 rfl) ?_
    refine Run.a (Val.eq (Val.of rfl) (show _ = Value.bool false from congrArg Value.bool (decide_eq_false (by omega)))) ?_
    refine Run.a (Val.of rfl) ?_
    refine Run.a (Val.of rfl) ?_
    refine Run.a (Val.fieldAddr tabOk rfl rfl rfl rfl rfl rfl rfl rfl) ?_
    refine Run.a (Val.load (v := .int .i64 nd) tabOk rfl rfl rfl m0 rfl) ?_
    refine Run.a (Val.fieldAddr tabOk rfl rfl rfl rfl rfl rfl rfl rfl) ?_
    refine Run.a (Val.load (v := .slice va l.length vc) tabOk rfl rfl rfl m0 rfl) ?_
    refine Run.a (Val.len (len := l.length) tabOk rfl rfl rfl rfl) ?_
    refine Run.a (Val.eq (Val.of rfl) (show _ = Value.bool true from congrArg Value.bool (decide_eq_true (by omega)))) ?_
    refine Run.a (Val.of rfl) ?_
    refine Run.a (Val.of rfl) ?_
    refine Run.sk ?_
    refine Run.sk ?_
    refine Run.sk ?_
    refine Run.a (Val.of rfl) ?_
    refine Run.a (Val.of rfl) ?_
    refine Run.sk ?_
    refine Run.sk ?_
    refine Run.sk ?_
    refine Run.a (Val.of rfl) ?_
    refine Run.a (Val.of rfl) ?_
    refine Run.sk ?_
    refine Run.sk ?_
    refine Run.sk ?_
    refine Run.a (Val.of rfl) ?_
    refine Run.a (Val.of rfl) ?_
    refine Run.sk ?_
    refine Run.sk ?_
    refine Run.sk ?_
    refine Run.sk ?_
    refine Run.sk ?_
    refine Run.a (Val.of rfl) ?_
    refine Run.nil (RQ.next ?_)
    (repeat refine RC.seq ?_); refine RC.condT rfl rfl ?_
    (repeat refine RC.seq ?_); refine RC.region ?_
    refine Run.a (Val.of rfl) ?_
    refine Run.nil (RQ.next ?_)
    refine RC.ret ?_; (repeat first | refine RQ.thenRet ?_ | refine RQ.blockRet ?_); exact RQ.ret1 rfl (Res.tmp rfl) fun w' hm => ⟨rfl, hm.fr⟩
  by_cases h4 : ln < 2
  · rw [mayP_time (by omega)]
    (repeat refine RC.seq ?_); refine RC.region ?_
    refine Run.a (Val.fieldAddr tabOk rfl rfl rfl rfl rfl rfl rfl rfl) ?_
    refine Run.a (Val.load (v := .slice va l.length vc) tabOk rfl rfl rfl m0 rfl) ?_
    refine Run.a (Val.len (len := l.length) tabOk rfl rfl rfl rfl) ?_
    refine Run.a (Val.eq (Val.of rfl) (show _ = Value.bool false from congrArg Value.bool (decide_eq_false (by omega)))) ?_
    refine Run.a (Val.of rfl) ?_
    refine Run.a (Val.fieldAddr tabOk rfl rfl rfl rfl rfl rfl rfl rfl) ?_
    refine Run.a (Val.load (v := .slice va l.length vc) tabOk rfl rfl rfl m0 rfl) ?_
    refine Run.a (Val.len (len := l.length) tabOk rfl rfl rfl rfl) ?_
    refine Run.a (Val.eq (Val.of rfl) (show _ = Value.bool false from congrArg Value.bool (decide_eq_false (by omega)))) ?_
    refine Run.a (Val.of rfl) ?_
    refine Run.a (Val.of rfl) ?_
    refine Run.a (Val.fieldAddr tabOk rfl rfl rfl rfl rfl rfl rfl rfl) ?_
    refine Run.a (Val.load (v := .int .i64 nd) tabOk rfl rfl rfl m0 rfl) ?_
    refine Run.a (Val.eq (Val.of rfl) (show _ = Value.bool false from congrArg Value.bool (decide_eq_false (by omega)))) ?_
    refine Run.a (Val.of rfl) ?_
    refine Run.a (Val.of rfl) ?_
    refine Run.a (Val.fieldAddr tabOk rfl rfl rfl rfl rfl rfl rfl rfl) ?_
    refine Run.a (Val.load (v := .int .i64 nd) tabOk rfl rfl rfl m0 rfl) ?_
    refine Run.a (Val.fieldAddr tabOk rfl rfl rfl rfl rfl rfl rfl rfl) ?_
    refine Run.a (Val.load (v := .slice va l.length vc) tabOk rfl rfl rfl m0 rfl) ?_
    refine Run.a (Val.len (len := l.length) tabOk rfl rfl rfl rfl) ?_
    refine Run.a (Val.eq (Val.of rfl) (show _ = Value.bool false from congrArg Value.bool (decide_eq_false (by omega)))) ?_
    refine Run.a (Val.of rfl) ?_
    refine Run.a (Val.of rfl) ?_
    refine Run.a (Val.fieldAddr tabOk rfl rfl rfl rfl rfl rfl rfl rfl) ?_
    refine Run.a (Val.load (v := .int .i64 ln) tabOk rfl rfl rfl m0 rfl) ?_
    refine Run.a (Val.eq (Val.of rfl) (show _ = Value.bool true from congrArg Value.bool (decide_eq_true (by omega)))) ?_
    refine Run.a (Val.of rfl) ?_
    refine Run.a (Val.of rfl) ?_
    refine Run.sk ?_
    refine Run.sk ?_
    refine Run.sk ?_
    refine Run.a (Val.of rfl) ?_
    refine Run.a (Val.of rfl) ?_
    refine Run.sk ?_
    refine Run.sk ?_
    refine Run.sk ?_
    refine Run.a (Val.of rfl) ?_
    refine Run.a (Val.of rfl) ?_
    refine Run.sk ?_
    refine Run.sk ?_
    refine Run.sk ?_
    refine Run.sk ?_
    refine Run.sk ?_
    refine Run.a (Val.of rfl) ?_
    refine Run.nil (RQ.next ?_)
    (repeat refine RC.seq ?_); refine RC.condT rfl rfl ?_
    (repeat refine RC.seq ?_); refine RC.region ?_
    refine Run.a (Val.of rfl) ?_
    refine Run.nil (RQ.next ?_)
    refine RC.ret ?_; (repeat first | refine RQ.thenRet ?_ | refine RQ.blockRet ?_); exact RQ.ret1 rfl (Res.tmp rfl) fun w' hm => ⟨rfl, hm.fr⟩
  by_cases h5 : 64 < ln
  · rw [mayP_time (by omega)]
    (repeat refine RC.seq ?_); refine RC.region ?_
    refine Run.a (Val.fieldAddr tabOk rfl rfl rfl rfl rfl rfl rfl rfl) ?_
    refine Run.a (Val.load (v := .slice va l.length vc) tabOk rfl rfl rfl m0 rfl) ?_
    refine Run.a (Val.len (len := l.length) tabOk rfl rfl rfl rfl) ?_
    refine Run.a (Val.eq (Val.of rfl) (show _ = Value.bool false from congrArg Value.bool (decide_eq_false (by omega)))) ?_
    refine Run.a (Val.of rfl) ?_
    refine Run.a (Val.fieldAddr tabOk rfl rfl rfl rfl rfl rfl rfl rfl) ?_
    refine Run.a (Val.load (v := .slice va l.length vc) tabOk rfl rfl rfl m0 rfl) ?_
    refine Run.a (Val.len (len := l.length) tabOk rfl rfl rfl rfl) ?_
    refine Run.a (Val.eq (Val.of rfl) (show _ = Value.bool false from congrArg Value.bool (decide_eq_false (by omega)))) ?_
    refine Run.a (Val.of rfl) ?_
    refine Run.a (Val.of rfl) ?_
    refine Run.a (Val.fieldAddr tabOk rfl rfl rfl rfl rfl rfl rfl rfl) ?_
    refine Run.a (Val.load (v := .int .i64 nd) tabOk rfl rfl rfl m0 rfl) ?_
    refine Run.a (Val.eq (Val.of rfl) (show _ = Value.bool false from congrArg Value.bool (decide_eq_false (by omega)))) ?_
    refine Run.a (Val.of rfl) ?_
    refine Run.a (Val.of rfl) ?_
    refine Run.a (Val.fieldAddr tabOk rfl rfl rfl rfl rfl rfl rfl rfl) ?_
    refine Run.a (Val.load (v := .int .i64 nd) tabOk rfl rfl rfl m0 rfl) ?_
    refine Run.a (Val.fieldAddr tabOk rfl rfl rfl rfl rfl rfl rfl rfl) ?_
    refine Run.a (Val.load (v := .slice va l.length vc) tabOk rfl rfl rfl m0 rfl) ?_
    refine Run.a (Val.len (len := l.length) tabOk rfl rfl rfl rfl) ?_
    refine Run.a (Val.eq (Val.of rfl) (show _ = Value.bool false from congrArg Value.bool (decide_eq_false (by omega)))) ?_
    refine Run.a (Val.of rfl) ?_
    refine Run.a (Val.of rfl) ?_
    refine Run.a (Val.fieldAddr tabOk rfl rfl rfl rfl rfl rfl rfl rfl) ?_
    refine Run.a (Val.load (v := .int .i64 ln) tabOk rfl rfl rfl m0 rfl) ?_
    refine Run.a (Val.eq (Val.of rfl) (show _ = Value.bool false from congrArg Value.bool (decide_eq_false (by omega)))) ?_
    refine Run.a (Val.of rfl) ?_
    refine Run.a (Val.of rfl) ?_
    refine Run.a (Val.fieldAddr tabOk rfl rfl rfl rfl rfl rfl rfl rfl) ?_
    refine Run.a (Val.load (v := .int .i64 ln) tabOk rfl rfl rfl m0 rfl) ?_
    refine Run.a (Val.eq (Val.of rfl) (show _ = Value.bool true from congrArg Value.bool (decide_eq_true (by omega)))) ?_
    refine Run.a (Val.of rfl) ?_
    refine Run.a (Val.of rfl) ?_
    refine Run.sk ?_
    refine Run.sk ?_
    refine Run.sk ?_
    refine Run.a (Val.of rfl) ?_
    refine Run.a (Val.of rfl) ?_
    refine Run.sk ?_
    refine Run.sk ?_
    refine Run.sk ?_
    refine Run.sk ?_
    refine Run.sk ?_
    refine Run.a (Val.of rfl) ?_
    refine Run.nil (RQ.next ?_)
    (repeat refine RC.seq ?_); refine RC.condT rfl rfl ?_
    (repeat refine RC.seq ?_); refine RC.region ?_
    refine Run.a (Val.of rfl) ?_
    refine Run.nil (RQ.next ?_)
    refine RC.ret ?_; (repeat first | refine RQ.thenRet ?_ | refine RQ.blockRet ?_); exact RQ.ret1 rfl (Res.tmp rfl) fun w' hm => ⟨rfl, hm.fr⟩
  by_cases h6 : wd < 1
  · rw [mayP_time (by omega)]
    (repeat refine RC.seq ?_); refine RC.region ?_
    refine Run.a (Val.fieldAddr tabOk rfl rfl rfl rfl rfl rfl rfl rfl) ?_
    refine Run.a (Val.load (v := .slice va l.length vc) tabOk rfl rfl rfl m0 rfl) ?_
    refine Run.a (Val.len (len := l.length) tabOk rfl rfl rfl rfl) ?_
    refine Run.a (Val.eq (Val.of rfl) (show _ = Value.bool false from congrArg Value.bool (decide_eq_false (by omega)))) ?_
    refine Run.a (Val.of rfl) ?_
    refine Run.a (Val.fieldAddr tabOk rfl rfl rfl rfl rfl rfl rfl rfl) ?_
    refine Run.a (Val.load (v := .slice va l.length vc) tabOk rfl rfl rfl m0 rfl) ?_
    refine Run.a (Val.len (len := l.length) tabOk rfl rfl rfl rfl) ?_
    refine Run.a (Val.eq (Val.of rfl) (show _ = Value.bool false from congrArg Value.bool (decide_eq_false (by omega)))) ?_
    refine Run.a (Val.of rfl) ?_
    refine Run.a (Val.of rfl) ?_
    refine Run.a (Val.fieldAddr tabOk rfl rfl rfl rfl rfl rfl rfl rfl) ?_
    refine Run.a (Val.load (v := .int .i64 nd) tabOk rfl rfl rfl m0 rfl) ?_
    refine Run.a (Val.eq (Val.of rfl) (show _ = Value.bool false from congrArg Value.bool (decide_eq_false (by omega)))) ?_
    refine Run.a (Val.of rfl) ?_
    refine Run.a (Val.of rfl) ?_
    refine Run.a (Val.fieldAddr tabOk rfl rfl rfl rfl rfl rfl rfl rfl) ?_
    refine Run.a (Val.load (v := .int .i64 nd) tabOk rfl rfl rfl m0 rfl) ?_
    refine Run.a (Val.fieldAddr tabOk rfl rfl rfl rfl rfl rfl rfl rfl) ?_
    refine Run.a (Val.load (v := .slice va l.length vc) tabOk rfl rfl rfl m0 rfl) ?_
    refine Run.a (Val.len (len := l.length) tabOk rfl rfl rfl rfl) ?_
    refine Run.a (Val.eq (Val.of rfl) (show _ = Value.bool false from congrArg Value.bool (decide_eq_false (by omega)))) ?_
    refine Run.a (Val.of rfl) ?_
    refine Run.a (Val.of rfl) ?_
    refine Run.a (Val.fieldAddr tabOk rfl rfl rfl rfl rfl rfl rfl rfl) ?_
    refine Run.a (Val.load (v := .int .i64 ln) tabOk rfl rfl rfl m0 rfl) ?_
    refine Run.a (Val.eq (Val.of rfl) (show _ = Value.bool false from congrArg Value.bool (decide_eq_false (by omega)))) ?_
    refine Run.a (Val.of rfl) ?_
    refine Run.a (Val.of rfl) ?_
    refine Run.a (Val.fieldAddr tabOk rfl rfl rfl rfl rfl rfl rfl rfl) ?_
    refine Run.a (Val.load (v := .int .i64 ln) tabOk rfl rfl rfl m0 rfl) ?_
    refine Run.a (Val.eq (Val.of rfl) (show _ = Value.bool false from congrArg Value.bool (decide_eq_false (by omega)))) ?_
    refine Run.a (Val.of rfl) ?_
    refine Run.a (Val.of rfl) ?_
    refine Run.a (Val.fieldAddr tabOk rfl rfl rfl rfl rfl rfl rfl rfl) ?_
    refine Run.a (Val.load (v := .int .i64 wd) tabOk rfl rfl rfl m0 rfl) ?_
    refine Run.a (Val.eq (Val.of rfl) (show _ = Value.bool true from congrArg Value.bool (decide_eq_true (by omega)))) ?_
    refine Run.a (Val.of rfl) ?_
    refine Run.a (Val.of rfl) ?_
    refine Run.sk ?_
    refine Run.sk ?_
    refine Run.sk ?_
    refine Run.sk ?_
    refine Run.sk ?_
    refine Run.a (Val.of rfl) ?_
    refine Run.nil (RQ.next ?_)
    (repeat refine RC.seq ?_); refine RC.condT rfl rfl ?_
    (repeat refine RC.seq ?_); refine RC.region ?_
    refine Run.a (Val.of rfl) ?_
    refine Run.nil (RQ.next ?_)
    refine RC.ret ?_; (repeat first | refine RQ.thenRet ?_ | refine RQ.blockRet ?_); exact RQ.ret1 rfl (Res.tmp rfl) fun w' hm => ⟨rfl, hm.fr⟩
  by_cases h7 : ln < wd
  · rw [mayP_time (by omega)]
    (repeat refine RC.seq ?_); refine RC.region ?_
    refine Run.a (Val.fieldAddr tabOk rfl rfl rfl rfl rfl rfl rfl rfl) ?_
    refine Run.a (Val.load (v := .slice va l.length vc) tabOk rfl rfl rfl m0 rfl) ?_
    refine Run.a (Val.len (len := l.length) tabOk rfl rfl rfl rfl) ?_
    refine Run.a (Val.eq (Val.of rfl) (show _ = Value.bool false from congrArg Value.bool (decide_eq_false (by omega)))) ?_
    refine Run.a (Val.of rfl) ?_
    refine Run.a (Val.fieldAddr tabOk rfl rfl rfl rfl rfl rfl rfl rfl) ?_
    refine Run.a (Val.load (v := .slice va l.length vc) tabOk rfl rfl rfl m0 rfl) ?_
    refine Run.a (Val.len (len := l.length) tabOk rfl rfl rfl rfl) ?_
    refine Run.a (Val.eq (Val.of rfl) (show _ = Value.bool false from congrArg Value.bool (decide_eq_false (by omega)))) ?_
    refine Run.a (Val.of rfl) ?_
    refine Run.a (Val.of rfl) ?_
    refine Run.a (Val.fieldAddr tabOk rfl rfl rfl rfl rfl rfl rfl rfl) ?_
    refine Run.a (Val.load (v := .int .i64 nd) tabOk rfl rfl rfl m0 rfl) ?_
    refine Run.a (Val.eq (Val.of rfl) (show _ = Value.bool false from congrArg Value.bool (decide_eq_false (by omega)))) ?_
    refine Run.a (Val.of rfl) ?_
    refine Run.a (Val.of rfl) ?_
    refine Run.a (Val.fieldAddr tabOk rfl rfl rfl rfl rfl rfl rfl rfl) ?_
    refine Run.a (Val.load (v := .int .i64 nd) tabOk rfl rfl rfl m0 rfl) ?_
    refine Run.a (Val.fieldAddr tabOk rfl rfl rfl rfl rfl rfl rfl rfl) ?_
    refine Run.a (Val.load (v := .slice va l.length vc) tabOk rfl rfl rfl m0 rfl) ?_
    refine Run.a (Val.len (len := l.length) tabOk rfl rfl rfl rfl) ?_
    refine Run.a (Val.eq (Val.of rfl) (show _ = Value.bool false from congrArg Value.bool (decide_eq_false (by omega)))) ?_
    refine Run.a (Val.of rfl) ?_
    refine Run.a (Val.of rfl) ?_
    refine Run.a (Val.fieldAddr tabOk rfl rfl rfl rfl rfl rfl rfl rfl) ?_
    refine Run.a (Val.load (v := .int .i64 ln) tabOk rfl rfl rfl m0 rfl) ?_
    refine Run.a (Val.eq (Val.of rfl) (show _ = Value.bool false from congrArg Value.bool (decide_eq_false (by omega)))) ?_
    refine Run.a (Val.of rfl) ?_
    refine Run.a (Val.of rfl) ?_
    refine Run.a (Val.fieldAddr tabOk rfl rfl rfl rfl rfl rfl rfl rfl) ?_
    refine Run.a (Val.load (v := .int .i64 ln) tabOk rfl rfl rfl m0 rfl) ?_
    refine Run.a (Val.eq (Val.of rfl) (show _ = Value.bool false from congrArg Value.bool (decide_eq_false (by omega)))) ?_
    refine Run.a (Val.of rfl) ?_
    refine Run.a (Val.of rfl) ?_
    refine Run.a (Val.fieldAddr tabOk rfl rfl rfl rfl rfl rfl rfl rfl) ?_
    refine Run.a (Val.load (v := .int .i64 wd) tabOk rfl rfl rfl m0 rfl) ?_
    refine Run.a (Val.eq (Val.of rfl) (show _ = Value.bool false from congrArg Value.bool (decide_eq_false (by omega)))) ?_
    refine Run.a (Val.of rfl) ?_
    refine Run.a (Val.of rfl) ?_
    refine Run.a (Val.fieldAddr tabOk rfl rfl rfl rfl rfl rfl rfl rfl) ?_
    refine Run.a (Val.load (v := .int .i64 wd) tabOk rfl rfl rfl m0 rfl) ?_
    refine Run.a (Val.fieldAddr tabOk rfl rfl rfl rfl rfl rfl rfl rfl) ?_
    refine Run.a (Val.load (v := .int .i64 ln) tabOk rfl rfl rfl m0 rfl) ?_
    refine Run.a (Val.eq (Val.of rfl) (show _ = Value.bool true from congrArg Value.bool (decide_eq_true (by omega)))) ?_
    refine Run.a (Val.of rfl) ?_
    refine Run.nil (RQ.next ?_)
    (repeat refine RC.seq ?_); refine RC.condT rfl rfl ?_
    (repeat refine RC.seq ?_); refine RC.region ?_
    refine Run.a (Val.of rfl) ?_
    refine Run.nil (RQ.next ?_)
    refine RC.ret ?_; (repeat first | refine RQ.thenRet ?_ | refine RQ.blockRet ?_); exact RQ.ret1 rfl (Res.tmp rfl) fun w' hm => ⟨rfl, hm.fr⟩
  (repeat refine RC.seq ?_); refine RC.region ?_
  refine Run.a (Val.fieldAddr tabOk rfl rfl rfl rfl rfl rfl rfl rfl) ?_
  refine Run.a (Val.load (v := .slice va l.length vc) tabOk rfl rfl rfl m0 rfl) ?_
  refine Run.a (Val.len (len := l.length) tabOk rfl rfl rfl rfl) ?_
  refine Run.a (Val.eq (Val.of rfl) (show _ = Value.bool false from congrArg Value.bool (decide_eq_false (by omega)))) ?_
  refine Run.a (Val.of rfl) ?_
  refine Run.a (Val.fieldAddr tabOk rfl rfl rfl rfl rfl rfl rfl rfl) ?_
  refine Run.a (Val.load (v := .slice va l.length vc) tabOk rfl rfl rfl m0 rfl) ?_
  refine Run.a (Val.len (len := l.length) tabOk rfl rfl rfl rfl) ?_
  refine Run.a (Val.eq (Val.of rfl) (show _ = Value.bool false from congrArg Value.bool (decide_eq_false (by omega)))) ?_
  refine Run.a (Val.of rfl) ?_
  refine Run.a (Val.of rfl) ?_
  refine Run.a (Val.fieldAddr tabOk rfl rfl rfl rfl rfl rfl rfl rfl) ?_
  refine Run.a (Val.load (v := .int .i64 nd) tabOk rfl rfl rfl m0 rfl) ?_
  refine Run.a (Val.eq (Val.of rfl) (show _ = Value.bool false from congrArg Value.bool (decide_eq_false (by omega)))) ?_
  refine Run.a (Val.of rfl) ?_
  refine Run.a (Val.of rfl) ?_
  refine Run.a (Val.fieldAddr tabOk rfl rfl rfl rfl rfl rfl rfl rfl) ?_
  refine Run.a (Val.load (v := .int .i64 nd) tabOk rfl rfl rfl m0 rfl) ?_
  refine Run.a (Val.fieldAddr tabOk rfl rfl rfl rfl rfl rfl rfl rfl) ?_
  refine Run.a (Val.load (v := .slice va l.length vc) tabOk rfl rfl rfl m0 rfl) ?_
  refine Run.a (Val.len (len := l.length) tabOk rfl rfl rfl rfl) ?_
  refine Run.a (Val.eq (Val.of rfl) (show _ = Value.bool false from congrArg Value.bool (decide_eq_false (by omega)))) ?_
  refine Run.a (Val.of rfl) ?_
  refine Run.a (Val.of rfl) ?_
  refine Run.a (Val.fieldAddr tabOk rfl rfl rfl rfl rfl rfl rfl rfl) ?_
  refine Run.a (Val.load (v := .int .i64 ln) tabOk rfl rfl rfl m0 rfl) ?_
  refine Run.a (Val.eq (Val.of rfl) (show _ = Value.bool false from congrArg Value.bool (decide_eq_false (by omega)))) ?_
  refine Run.a (Val.of rfl) ?_
  refine Run.a (Val.of rfl) ?_
  refine Run.a (Val.fieldAddr tabOk rfl rfl rfl rfl rfl rfl rfl rfl) ?_
  refine Run.a (Val.load (v := .int .i64 ln) tabOk rfl rfl rfl m0 rfl) ?_
  refine Run.a (Val.eq (Val.of rfl) (show _ = Value.bool false from congrArg Value.bool (decide_eq_false (by omega)))) ?_
  refine Run.a (Val.of rfl) ?_
  refine Run.a (Val.of rfl) ?_
  refine Run.a (Val.fieldAddr tabOk rfl rfl rfl rfl rfl rfl rfl rfl) ?_
  refine Run.a (Val.load (v := .int .i64 wd) tabOk rfl rfl rfl m0 rfl) ?_
  refine Run.a (Val.eq (Val.of rfl) (show _ = Value.bool false from congrArg Value.bool (decide_eq_false (by omega)))) ?_
  refine Run.a (Val.of rfl) ?_
  refine Run.a (Val.of rfl) ?_
  refine Run.a (Val.fieldAddr tabOk rfl rfl rfl rfl rfl rfl rfl rfl) ?_
  refine Run.a (Val.load (v := .int .i64 wd) tabOk rfl rfl rfl m0 rfl) ?_
  refine Run.a (Val.fieldAddr tabOk rfl rfl rfl rfl rfl rfl rfl rfl) ?_
  refine Run.a (Val.load (v := .int .i64 ln) tabOk rfl rfl rfl m0 rfl) ?_
  refine Run.a (Val.eq (Val.of rfl) (show _ = Value.bool false from congrArg Value.bool (decide_eq_false (by omega)))) ?_
  refine Run.a (Val.of rfl) ?_
  refine Run.nil (RQ.next ?_)
  (repeat refine RC.seq ?_); refine RC.condF rfl rfl (RC.skip (RQ.next ?_))
  have hcond : 1 ≤ l.length ∧ l.length ≤ 5 ∧ 1 ≤ nd ∧ nd ≤ l.length := by omega
  obtain ⟨ad, c, hv, hc, hcl, hr⟩ := hs.pos (by omega)
  cases hv
  (repeat refine RC.seq ?_); refine RC.region ?_
  refine Run.a (Val.of rfl) ?_
  refine Run.nil (RQ.next ?_)
  (repeat refine RC.seq ?_); refine RC.block ?_
  refine RC.up l.length (D := Unit) (fun i _ => zero8 ∉ l.take i ∧ (l.take i).Nodup) (fun i _ => [(3, .int .i64 i), (1, .pointer (some ⟨b1, 0, none⟩))])
    (fun _ _ => [(b1, .cells (prm ln wd nd (.slice (some ad) l.length vc)).toArray 54 (0, 0))]) 0 () (Nat.zero_le _) (by simp) ⟨rfl, rfl, trivial⟩ (List.Sublist.refl _) ?_
  intro i _ hi hok
  (repeat refine RC.seq ?_); refine RC.region ?_
  refine Run.a (Val.of rfl) ?_
  refine Run.a (Val.fieldAddr tabOk rfl rfl rfl rfl rfl rfl rfl rfl) ?_
  refine Run.a (Val.load (v := .slice (some ad) l.length vc) tabOk rfl rfl rfl m0 rfl) ?_
  refine Run.a (Val.len (len := l.length) tabOk rfl rfl rfl rfl) ?_
  refine Run.a (Val.of rfl) ?_
  refine Run.nil (RQ.next ?_)
  (repeat refine RC.seq ?_); refine RC.wh rfl (fun h => RQ.next ?_) (fun h => ?_)
  · have hi' : i < l.length := by have := of_decide_eq_true h; omega
    clear h
    obtain ⟨y, hy⟩ : ∃ y, l[i]? = some y := ⟨_, List.getElem?_eq_getElem hi'⟩
    have hy8 := hH y (List.mem_of_getElem? hy)
    have hload := hashAt hH hr hy
    (repeat refine RC.seq ?_); refine RC.block ?_
    (repeat refine RC.seq ?_); refine RC.region ?_
    refine Run.a (Val.of rfl) ?_
    refine Run.nil (RQ.next ?_)
    (repeat refine RC.seq ?_); refine RC.block ?_
    refine RC.up i (D := Unit) (fun j _ => y ∉ l.take j) (fun j _ => [(4, .int .i64 j), (3, .int .i64 i), (1, .pointer (some ⟨b1, 0, none⟩))])
      (fun _ _ => [(b1, .cells (prm ln wd nd (.slice (some ad) l.length vc)).toArray 54 (0, 0))]) 0 () (Nat.zero_le _) (by simp) ⟨rfl, rfl, rfl, trivial⟩ (List.Sublist.refl _) ?_
    intro j _ hj hno
    (repeat refine RC.seq ?_); refine RC.region ?_
    refine Run.a (Val.of rfl) ?_
    refine Run.a (Val.of rfl) ?_
    refine Run.a (Val.of rfl) ?_
    refine Run.nil (RQ.next ?_)
    (repeat refine RC.seq ?_); refine RC.wh rfl (fun h => RQ.next ?_) (fun h => ?_)
    · have hj' : j < i := by have := of_decide_eq_true h; omega
      clear h
      obtain ⟨x, hx⟩ : ∃ x, l[j]? = some x := ⟨_, List.getElem?_eq_getElem (by omega)⟩
      have hx8 := hH x (List.mem_of_getElem? hx)
      have hload2 := hashAt hH hr hx
      (repeat refine RC.seq ?_); refine RC.block ?_
      (repeat refine RC.seq ?_); refine RC.drawS mixed (N := 11) rfl ?_
      refine DR.t 0 rfl (Val.fieldAddr tabOk rfl rfl rfl rfl rfl rfl rfl rfl) ?_
      refine DR.t 1 rfl (Val.load (v := .slice (some ad) l.length vc) tabOk rfl rfl rfl m0 rfl) ?_
      refine DR.t 2 rfl (Val.of rfl) ?_
      refine DR.t 3 rfl (Val.ixS tabOk j (ad' := ad.add (j * 8)) rfl rfl rfl rfl rfl rfl rfl (by omega) rfl) ?_
      refine DR.t 4 rfl (Val.loadOld tabOk (cs := u8s x) rfl rfl rfl rfl (by simp) (by rw [u8s_len, hx8.1]; rfl) hload2) ?_
      refine DR.t 5 rfl (Val.fieldAddr tabOk rfl rfl rfl rfl rfl rfl rfl rfl) ?_
      refine DR.t 6 rfl (Val.load (v := .slice (some ad) l.length vc) tabOk rfl rfl rfl m0 rfl) ?_
      refine DR.t 7 rfl (Val.of rfl) ?_
      refine DR.t 8 rfl (Val.ixS tabOk i (ad' := ad.add (i * 8)) rfl rfl rfl rfl rfl rfl rfl (by omega) rfl) ?_
      refine DR.t 9 rfl (Val.loadOld tabOk (cs := u8s y) rfl rfl rfl rfl (by simp) (by rw [u8s_len, hy8.1]; rfl) hload) ?_
      refine DR.t 10 rfl (Val.eqU (m := 8) (a := x) (b := y) tabOk rfl rfl rfl (by kernel_rfl) (by kernel_rfl) rfl rfl hx8.1 hy8.1) ?_
      refine DR.done (by kernel_rfl) (RQ.next ?_)
      (repeat refine RC.seq ?_); refine RC.cond rfl (fun h => ?_) (fun h => ?_)
      · have h1 := of_decide_eq_true h
        have hin : y ∈ l.take i := by
          rw [← h1]
          exact List.mem_of_getElem? (i := j) (by rw [List.getElem?_take, if_pos hj', hx])
        rw [mayP_keys (kOk_bad hy (.inr hin))]
        (repeat refine RC.seq ?_); refine RC.region ?_
        refine Run.a (Val.of rfl) ?_
        refine Run.nil (RQ.next ?_)
        refine RC.ret ?_; (repeat first | refine RQ.thenRet ?_ | refine RQ.blockRet ?_); exact RQ.ret1 rfl (Res.tmp rfl) fun w' hm => ⟨rfl, hm.fr⟩
      · have h1 := of_decide_eq_false h
        refine RC.skip (RQ.blockNormal (RQ.next ?_))
        refine RC.region ?_
        repeat (first | refine Run.a Val.ra ?_ | refine Run.a (Val.of rfl) ?_)
        refine Run.nil (RQ.up (j + 1) () (Nat.lt_succ_self _) hj' ?_ ⟨rfl, rfl, rfl, trivial⟩ (List.Sublist.refl _))
        rw [List.take_add_one, hx]
        simp only [List.mem_append, not_or]
        exact ⟨hno, by simpa using fun e => h1 e.symm⟩
    · have hj' : j = i := by have := of_decide_eq_false h; omega
      subst hj'
      (repeat refine RQ.thenExit ?_); refine RQ.blockHere ?_
      refine RQ.next ?_
      (repeat refine RC.seq ?_); refine RC.region ?_
      refine Run.a (Val.fieldAddr tabOk rfl rfl rfl rfl rfl rfl rfl rfl) ?_
      refine Run.a (Val.load (v := .slice (some ad) l.length vc) tabOk rfl rfl rfl m0 rfl) ?_
      refine Run.a (Val.of rfl) ?_
      refine Run.a (Val.ixS tabOk j (ad' := ad.add (j * 8)) rfl rfl rfl rfl rfl rfl rfl (by omega) rfl) ?_
      refine Run.a (Val.loadOld tabOk (cs := u8s y) rfl rfl rfl rfl (by simp) (by rw [u8s_len, hy8.1]; rfl) hload) ?_
      refine Run.callV Tryz.func132 rfl rfl rfl rfl rfl rfl rfl (fun w' hm => ref_Zero_calls y hy8.1 w') ?_
      refine Run.nil (RQ.next ?_)
      (repeat refine RC.seq ?_); refine RC.cond rfl (fun h => ?_) (fun h => ?_)
      · have h1 := of_decide_eq_true h
        rw [mayP_keys (kOk_bad hy (.inl h1))]
        (repeat refine RC.seq ?_); refine RC.region ?_
        refine Run.a (Val.of rfl) ?_
        refine Run.nil (RQ.next ?_)
        refine RC.ret ?_; (repeat first | refine RQ.thenRet ?_ | refine RQ.blockRet ?_); exact RQ.ret1 rfl (Res.tmp rfl) fun w' hm => ⟨rfl, hm.fr⟩
      · have h1 := of_decide_eq_false h
        refine RC.skip (RQ.blockNormal (RQ.next ?_))
        refine RC.region ?_
        repeat (first | refine Run.a Val.ra ?_ | refine Run.a (Val.of rfl) ?_)
        exact Run.nil (RQ.up (j + 1) () (Nat.lt_succ_self _) hi' (kOk_step hy hok h1 hno) ⟨rfl, rfl, trivial⟩ (List.Sublist.refl _))
  · have hi' : i = l.length := by have := of_decide_eq_false h; omega
    subst hi'
    have hk := kOk_good hok
    rw [mayP_good hcond hk (by omega)]
    (repeat refine RQ.thenExit ?_); refine RQ.blockHere ?_
    refine RQ.next ?_
    (repeat refine RC.seq ?_); refine RC.region ?_
    refine Run.a (Val.of rfl) ?_
    refine Run.nil (RQ.next ?_)
    refine RC.ret ?_; (repeat first | refine RQ.thenRet ?_ | refine RQ.blockRet ?_); exact RQ.ret1 rfl (Res.tmp rfl) fun w' hm => ⟨rfl, hm.fr⟩
end Go.Proofs.YtfoeakgnkfcbjaaGreatDoor

/- quorum's law: Seed, Made, Signed. -/
namespace Go.Sha
end Go.Sha
namespace Go.Vc
open Go Go.Sha
section
variable {P : Program} {n : Nat} {w0 : World} {S0 : List Nat} {Q : Exit → Act → World → Prop} {E : Env} {L : Hp} {o : Oper} {d : Nat}
end
end Go.Vc
namespace Go.Proofs.YtfoeakgnkfcbjaaGreatDoor
open Go Go.Vc Go.Sha

end Go.Proofs.YtfoeakgnkfcbjaaGreatDoor

/- quorum's law: Signed. -/
namespace Go.Sha
end Go.Sha
namespace Go.Vc
open Go Go.Sha
end Go.Vc
namespace Go.Proofs.YtfoeakgnkfcbjaaGreatDoor
open Go Go.Vc Go.Sha

end Go.Proofs.YtfoeakgnkfcbjaaGreatDoor
end
