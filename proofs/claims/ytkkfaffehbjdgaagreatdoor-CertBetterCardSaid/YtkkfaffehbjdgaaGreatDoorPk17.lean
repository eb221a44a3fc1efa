/- Lemmas. -/
import Derived.Test.YtkkfaffehbjdgaaGreatDoorPk16
set_option linter.unusedSimpArgs false
set_option linter.unusedVariables false
section
/- registry: Ends, Open, and the reference's. -/
namespace Go.Proofs.YtkkfaffehbjdgaaGreatDoor
open Go Go.Vc Go.Sha

set_option maxRecDepth 10000 in set_option maxHeartbeats 4000000 in
theorem Ends_calls (ln wd nd made : Int) (kv : Value) (rest : List Value) (hr : rest.length = 37) (hko : kv.oneCell' = true) (e : Int) (w : World) :
    Gives Tryz.prog 87 [.agg (sideC ln wd nd kv made rest).toArray, .int .i64 e] (.int .i64 (endsN made ln wd e)) w := by
  refine enter Tryz.func87 rfl (Mem.nil w []) rfl ?_
  have hl := sideC_len (ln := ln) (wd := wd) (nd := nd) (kv := kv) (made := made) hr
  have hT := fun w' => timed_calls ln wd nd made kv rest hr hko w'
  (repeat refine RC.seq ?_); refine RC.region ?_
  refine Run.nw (New.boxA rfl rfl) ?_
  intro b2
  refine Run.a (Val.of rfl) ?_
  refine Run.nil (RQ.next ?_)
  cases ht : timedB made ln wd
  · rw [ht] at hT
    rw [ends_no (by rw [ht]; exact fun hx => by cases hx.1)]
    (repeat refine RC.seq ?_); refine RC.region ?_
    refine Run.a (Val.loadAll tabOk rfl rfl rfl rfl m0 (by rw [List.size_toArray, hl]; rfl)) ?_
    refine Run.op rfl (OpTo.callV Tryz.func88 rfl rfl rfl rfl rfl rfl (fun w' _ => hT w')) (fun _ => ?_)
    refine Run.a (Val.of rfl) ?_
    refine Run.a (Val.of rfl) ?_
    refine Run.sk ?_
    refine Run.sk ?_
    refine Run.sk ?_
    refine Run.a (Val.of rfl) ?_
    refine Run.nil (RQ.next ?_)
    (repeat refine RC.seq ?_); refine RC.condT rfl rfl ?_
    (repeat refine RC.seq ?_); refine RC.region ?_
    refine Run.a (Val.of rfl) ?_
    refine Run.nil (RQ.next ?_)
    refine RC.ret ?_; (repeat first | refine RQ.thenRet ?_ | refine RQ.blockRet ?_); exact RQ.ret1 rfl (Res.tmp rfl) fun w' hm => ⟨rfl, hm.fr⟩
  rw [ht] at hT
  have htt := timed_yes ht
  by_cases he : 0 ≤ e ∧ e ≤ 400
  · rw [ends_yes ht he]
    have hb := ends_lt (made := made) (ln := ln) (wd := wd) (e := e)
    rw [ends_yes ht he] at hb
    have hmn : 0 ≤ (e + 1) * ln := Int.mul_nonneg (by omega) (by omega)
    (repeat refine RC.seq ?_); refine RC.region ?_
    refine Run.a (Val.loadAll tabOk rfl rfl rfl rfl m0 (by rw [List.size_toArray, hl]; rfl)) ?_
    refine Run.op rfl (OpTo.callV Tryz.func88 rfl rfl rfl rfl rfl rfl (fun w' _ => hT w')) (fun _ => ?_)
    refine Run.a (Val.of rfl) ?_
    refine Run.a (Val.of rfl) ?_
    refine Run.a (Val.of rfl) ?_
    refine Run.opG (Wanted.guard rfl rfl rfl rfl) (OpTo.callV Tryz.func89 rfl rfl rfl rfl rfl rfl (fun w' _ => within_calls e 0 400 w')) (fun _ => ?_)
    refine Run.a (Val.eq (Val.of rfl) (show _ = Value.bool false from congrArg Value.bool (by rw [decide_eq_true he]; rfl))) ?_
    refine Run.a (Val.of rfl) ?_
    refine Run.nil (RQ.next ?_)
    (repeat refine RC.seq ?_); refine RC.condF rfl rfl (RC.skip (RQ.next ?_))
    (repeat refine RC.seq ?_); refine RC.region ?_
    refine Run.a (Val.fieldAddr tabOk rfl rfl rfl rfl rfl rfl rfl rfl) ?_
    refine Run.a (Val.load (v := .int .i64 made) tabOk rfl rfl rfl m0 rfl) ?_
    refine Run.a (Val.of rfl) ?_
    refine Run.a (Val.ar rfl rfl rfl rfl (by dsimp only [inK]; omega)) ?_
    refine Run.a (Val.fieldAddr tabOk rfl rfl rfl rfl rfl rfl rfl rfl) ?_
    refine Run.a (Val.fieldAddr tabOk rfl rfl rfl rfl rfl rfl rfl rfl) ?_
    refine Run.a (Val.load (v := .int .i64 ln) tabOk rfl rfl rfl m0 rfl) ?_
    refine Run.a (Val.ar rfl rfl rfl rfl (by dsimp only [inK]; omega)) ?_
    refine Run.a (Val.ar rfl rfl rfl rfl (by dsimp only [inK]; omega)) ?_
    refine Run.a (Val.of rfl) ?_
    refine Run.nil (RQ.next ?_)
    refine RC.ret ?_; (repeat first | refine RQ.thenRet ?_ | refine RQ.blockRet ?_); exact RQ.ret1 rfl (Res.tmp rfl) fun w' hm => ⟨rfl, hm.fr⟩
  · rw [ends_no (fun hx => he hx.2)]
    (repeat refine RC.seq ?_); refine RC.region ?_
    refine Run.a (Val.loadAll tabOk rfl rfl rfl rfl m0 (by rw [List.size_toArray, hl]; rfl)) ?_
    refine Run.op rfl (OpTo.callV Tryz.func88 rfl rfl rfl rfl rfl rfl (fun w' _ => hT w')) (fun _ => ?_)
    refine Run.a (Val.of rfl) ?_
    refine Run.a (Val.of rfl) ?_
    refine Run.a (Val.of rfl) ?_
    refine Run.opG (Wanted.guard rfl rfl rfl rfl) (OpTo.callV Tryz.func89 rfl rfl rfl rfl rfl rfl (fun w' _ => within_calls e 0 400 w')) (fun _ => ?_)
    refine Run.a (Val.eq (Val.of rfl) (show _ = Value.bool true from congrArg Value.bool (by rw [decide_eq_false he]; rfl))) ?_
    refine Run.a (Val.of rfl) ?_
    refine Run.nil (RQ.next ?_)
    (repeat refine RC.seq ?_); refine RC.condT rfl rfl ?_
    (repeat refine RC.seq ?_); refine RC.region ?_
    refine Run.a (Val.of rfl) ?_
    refine Run.nil (RQ.next ?_)
    refine RC.ret ?_; (repeat first | refine RQ.thenRet ?_ | refine RQ.blockRet ?_); exact RQ.ret1 rfl (Res.tmp rfl) fun w' hm => ⟨rfl, hm.fr⟩

set_option maxRecDepth 10000 in set_option maxHeartbeats 4000000 in
theorem ref_Ends_calls (ln wd nd made : Int) (kv : Value) (rest : List Value) (hr : rest.length = 37) (hko : kv.oneCell' = true) (e : Int) (w : World) :
    Gives Tryz.prog 62 [.agg (sideC ln wd nd kv made rest).toArray, .int .i64 e] (.int .i64 (endsN made ln wd e)) w := by
  refine enter Tryz.func62 rfl (Mem.nil w []) rfl ?_
  have hl := sideC_len (ln := ln) (wd := wd) (nd := nd) (kv := kv) (made := made) hr
  have hT := fun w' => Fair_calls ln wd nd made kv rest hr w'
  (repeat refine RC.seq ?_); refine RC.region ?_
  refine Run.nw (New.boxA rfl rfl) ?_
  intro b2
  refine Run.a (Val.of rfl) ?_
  refine Run.nil (RQ.next ?_)
  by_cases h0 : e < 0
  · rw [ends_no (fun hx => by omega)]
    (repeat refine RC.seq ?_); refine RC.region ?_
    refine Run.a (Val.of rfl) ?_
    refine Run.a (Val.eq (Val.of rfl) (show _ = Value.bool true from congrArg Value.bool (decide_eq_true h0))) ?_
    refine Run.a (Val.of rfl) ?_
    refine Run.sk ?_
    refine Run.sk ?_
    refine Run.a (Val.of rfl) ?_
    refine Run.a (Val.of rfl) ?_
    refine Run.sk ?_
    refine Run.sk ?_
    refine Run.sk ?_
    refine Run.a (Val.of rfl) ?_
    refine Run.nil (RQ.next ?_)
    (repeat refine RC.seq ?_); refine RC.condT rfl rfl ?_
    (repeat refine RC.seq ?_); refine RC.region ?_
    refine Run.a (Val.of rfl) ?_
    refine Run.nil (RQ.next ?_)
    refine RC.ret ?_; (repeat first | refine RQ.thenRet ?_ | refine RQ.blockRet ?_); exact RQ.ret1 rfl (Res.tmp rfl) fun w' hm => ⟨rfl, hm.fr⟩
  by_cases h4 : 400 < e
  · rw [ends_no (fun hx => by omega)]
    (repeat refine RC.seq ?_); refine RC.region ?_
    refine Run.a (Val.of rfl) ?_
    refine Run.a (Val.eq (Val.of rfl) (show _ = Value.bool false from congrArg Value.bool (decide_eq_false h0))) ?_
    refine Run.a (Val.of rfl) ?_
    refine Run.a (Val.of rfl) ?_
    refine Run.a (Val.eq (Val.of rfl) (show _ = Value.bool true from congrArg Value.bool (decide_eq_true h4))) ?_
    refine Run.a (Val.of rfl) ?_
    refine Run.a (Val.of rfl) ?_
    refine Run.sk ?_
    refine Run.sk ?_
    refine Run.sk ?_
    refine Run.a (Val.of rfl) ?_
    refine Run.nil (RQ.next ?_)
    (repeat refine RC.seq ?_); refine RC.condT rfl rfl ?_
    (repeat refine RC.seq ?_); refine RC.region ?_
    refine Run.a (Val.of rfl) ?_
    refine Run.nil (RQ.next ?_)
    refine RC.ret ?_; (repeat first | refine RQ.thenRet ?_ | refine RQ.blockRet ?_); exact RQ.ret1 rfl (Res.tmp rfl) fun w' hm => ⟨rfl, hm.fr⟩
  cases ht : timedB made ln wd
  · rw [ht] at hT
    rw [ends_no (by rw [ht]; exact fun hx => by cases hx.1)]
    (repeat refine RC.seq ?_); refine RC.region ?_
    refine Run.a (Val.of rfl) ?_
    refine Run.a (Val.eq (Val.of rfl) (show _ = Value.bool false from congrArg Value.bool (decide_eq_false h0))) ?_
    refine Run.a (Val.of rfl) ?_
    refine Run.a (Val.of rfl) ?_
    refine Run.a (Val.eq (Val.of rfl) (show _ = Value.bool false from congrArg Value.bool (decide_eq_false h4))) ?_
    refine Run.a (Val.of rfl) ?_
    refine Run.a (Val.of rfl) ?_
    refine Run.a (Val.loadAll tabOk rfl rfl rfl rfl m0 (by rw [List.size_toArray, hl]; rfl)) ?_
    refine Run.opG (Wanted.guard rfl rfl rfl rfl) (OpTo.callV Tryz.func61 rfl rfl rfl rfl rfl rfl (fun w' _ => hT w')) (fun _ => ?_)
    refine Run.a (Val.of rfl) ?_
    refine Run.a (Val.of rfl) ?_
    refine Run.nil (RQ.next ?_)
    (repeat refine RC.seq ?_); refine RC.condT rfl rfl ?_
    (repeat refine RC.seq ?_); refine RC.region ?_
    refine Run.a (Val.of rfl) ?_
    refine Run.nil (RQ.next ?_)
    refine RC.ret ?_; (repeat first | refine RQ.thenRet ?_ | refine RQ.blockRet ?_); exact RQ.ret1 rfl (Res.tmp rfl) fun w' hm => ⟨rfl, hm.fr⟩
  rw [ht] at hT
  have htt := timed_yes ht
  have he : 0 ≤ e ∧ e ≤ 400 := by omega
  rw [ends_yes ht he]
  have hb := ends_lt (made := made) (ln := ln) (wd := wd) (e := e)
  rw [ends_yes ht he] at hb
  have hmn : 0 ≤ (e + 1) * ln := Int.mul_nonneg (by omega) (by omega)
  (repeat refine RC.seq ?_); refine RC.region ?_
  refine Run.a (Val.of rfl) ?_
  refine Run.a (Val.eq (Val.of rfl) (show _ = Value.bool false from congrArg Value.bool (decide_eq_false h0))) ?_
  refine Run.a (Val.of rfl) ?_
  refine Run.a (Val.of rfl) ?_
  refine Run.a (Val.eq (Val.of rfl) (show _ = Value.bool false from congrArg Value.bool (decide_eq_false h4))) ?_
  refine Run.a (Val.of rfl) ?_
  refine Run.a (Val.of rfl) ?_
  refine Run.a (Val.loadAll tabOk rfl rfl rfl rfl m0 (by rw [List.size_toArray, hl]; rfl)) ?_
  refine Run.opG (Wanted.guard rfl rfl rfl rfl) (OpTo.callV Tryz.func61 rfl rfl rfl rfl rfl rfl (fun w' _ => hT w')) (fun _ => ?_)
  refine Run.a (Val.of rfl) ?_
  refine Run.a (Val.of rfl) ?_
  refine Run.nil (RQ.next ?_)
  (repeat refine RC.seq ?_); refine RC.condF rfl rfl (RC.skip (RQ.next ?_))
  (repeat refine RC.seq ?_); refine RC.region ?_
  refine Run.a (Val.fieldAddr tabOk rfl rfl rfl rfl rfl rfl rfl rfl) ?_
  refine Run.a (Val.load (v := .int .i64 made) tabOk rfl rfl rfl m0 rfl) ?_
  refine Run.a (Val.of rfl) ?_
  refine Run.a (Val.ar rfl rfl rfl rfl (by dsimp only [inK]; omega)) ?_
  refine Run.a (Val.fieldAddr tabOk rfl rfl rfl rfl rfl rfl rfl rfl) ?_
  refine Run.a (Val.fieldAddr tabOk rfl rfl rfl rfl rfl rfl rfl rfl) ?_
  refine Run.a (Val.load (v := .int .i64 ln) tabOk rfl rfl rfl m0 rfl) ?_
  refine Run.a (Val.ar rfl rfl rfl rfl (by dsimp only [inK]; omega)) ?_
  refine Run.a (Val.ar rfl rfl rfl rfl (by dsimp only [inK]; omega)) ?_
  refine Run.a (Val.of rfl) ?_
  refine Run.nil (RQ.next ?_)
  refine RC.ret ?_; (repeat first | refine RQ.thenRet ?_ | refine RQ.blockRet ?_); exact RQ.ret1 rfl (Res.tmp rfl) fun w' hm => ⟨rfl, hm.fr⟩

set_option maxRecDepth 10000 in set_option maxHeartbeats 4000000 in
theorem Open_calls (ln wd nd made : Int) (kv : Value) (rest : List Value) (hr : rest.length = 37) (hko : kv.oneCell' = true) (e h : Int) (w : World) :
    Gives Tryz.prog 58 [.agg (sideC ln wd nd kv made rest).toArray, .int .i64 e, .int .i64 h] (.bool (openB made ln wd e h)) w := by
  refine enter Tryz.func58 rfl (Mem.nil w []) rfl ?_
  have hl := sideC_len (ln := ln) (wd := wd) (nd := nd) (kv := kv) (made := made) hr
  have hT := fun w' => timed_calls ln wd nd made kv rest hr hko w'
  have hE := fun w' => Ends_calls ln wd nd made kv rest hr hko e w'
  have hb := ends_lt (made := made) (ln := ln) (wd := wd) (e := e)
  (repeat refine RC.seq ?_); refine RC.region ?_
  refine Run.nw (New.boxA rfl rfl) ?_
  intro b2
  refine Run.a (Val.of rfl) ?_
  refine Run.nil (RQ.next ?_)
  unfold openB
  generalize endsN made ln wd e = en at *
  (repeat refine RC.seq ?_); refine RC.region ?_
  refine Run.a (Val.loadAll tabOk rfl rfl rfl rfl m0 (by rw [List.size_toArray, hl]; rfl)) ?_
  refine Run.a (Val.of rfl) ?_
  refine Run.callV Tryz.func87 rfl rfl rfl rfl rfl rfl rfl (fun w' _ => hE w') ?_
  refine Run.a (Val.of rfl) ?_
  refine Run.nil (RQ.next ?_)
  cases ht : timedB made ln wd
  · rw [ht] at hT
    rw [Bool.false_and]
    (repeat refine RC.seq ?_); refine RC.region ?_
    refine Run.a (Val.loadAll tabOk rfl rfl rfl rfl m0 (by rw [List.size_toArray, hl]; rfl)) ?_
    refine Run.op rfl (OpTo.callV Tryz.func88 rfl rfl rfl rfl rfl rfl (fun w' _ => hT w')) (fun _ => ?_)
    refine Run.a (Val.of rfl) ?_
    refine Run.sk ?_
    refine Run.sk ?_
    refine Run.a (Val.of rfl) ?_
    refine Run.a (Val.of rfl) ?_
    refine Run.sk ?_
    refine Run.sk ?_
    refine Run.sk ?_
    refine Run.a (Val.of rfl) ?_
    refine Run.a (Val.of rfl) ?_
    refine Run.sk ?_
    refine Run.sk ?_
    refine Run.sk ?_
    refine Run.sk ?_
    refine Run.sk ?_
    refine Run.sk ?_
    refine Run.sk ?_
    refine Run.a (Val.of rfl) ?_
    refine Run.a (Val.of rfl) ?_
    refine Run.nil (RQ.next ?_)
    refine RC.ret ?_; (repeat first | refine RQ.thenRet ?_ | refine RQ.blockRet ?_); exact RQ.ret1 rfl (Res.tmp rfl) fun w' hm => ⟨rfl, hm.fr⟩
  rw [ht] at hT
  rw [Bool.true_and]
  have htt := timed_yes ht
  by_cases he : ¬ (0 ≤ e ∧ e ≤ 400)
  · rw [decide_eq_false he, Bool.false_and]
    (repeat refine RC.seq ?_); refine RC.region ?_
    refine Run.a (Val.loadAll tabOk rfl rfl rfl rfl m0 (by rw [List.size_toArray, hl]; rfl)) ?_
    refine Run.op rfl (OpTo.callV Tryz.func88 rfl rfl rfl rfl rfl rfl (fun w' _ => hT w')) (fun _ => ?_)
    refine Run.a (Val.of rfl) ?_
    refine Run.a (Val.of rfl) ?_
    refine Run.opG (Wanted.guard rfl rfl rfl rfl) (OpTo.callV Tryz.func89 rfl rfl rfl rfl rfl rfl (fun w' _ => within_calls e 0 400 w')) (fun _ => ?_)
    refine Run.a (Val.eq (Val.of rfl) (show _ = Value.bool false from congrArg Value.bool (decide_eq_false he))) ?_
    refine Run.a (Val.of rfl) ?_
    refine Run.sk ?_
    refine Run.sk ?_
    refine Run.sk ?_
    refine Run.a (Val.of rfl) ?_
    refine Run.a (Val.of rfl) ?_
    refine Run.sk ?_
    refine Run.sk ?_
    refine Run.sk ?_
    refine Run.sk ?_
    refine Run.sk ?_
    refine Run.sk ?_
    refine Run.sk ?_
    refine Run.a (Val.of rfl) ?_
    refine Run.a (Val.of rfl) ?_
    refine Run.nil (RQ.next ?_)
    refine RC.ret ?_; (repeat first | refine RQ.thenRet ?_ | refine RQ.blockRet ?_); exact RQ.ret1 rfl (Res.tmp rfl) fun w' hm => ⟨rfl, hm.fr⟩
  have he2 := Decidable.not_not.1 he
  rw [decide_eq_true he2, Bool.true_and]
  by_cases h1 : ¬ en < h
  · rw [decide_eq_false h1, Bool.false_and]
    (repeat refine RC.seq ?_); refine RC.region ?_
    refine Run.a (Val.loadAll tabOk rfl rfl rfl rfl m0 (by rw [List.size_toArray, hl]; rfl)) ?_
    refine Run.op rfl (OpTo.callV Tryz.func88 rfl rfl rfl rfl rfl rfl (fun w' _ => hT w')) (fun _ => ?_)
    refine Run.a (Val.of rfl) ?_
    refine Run.a (Val.of rfl) ?_
    refine Run.opG (Wanted.guard rfl rfl rfl rfl) (OpTo.callV Tryz.func89 rfl rfl rfl rfl rfl rfl (fun w' _ => within_calls e 0 400 w')) (fun _ => ?_)
    refine Run.a (Val.eq (Val.of rfl) (show _ = Value.bool true from congrArg Value.bool (decide_eq_true he2))) ?_
    refine Run.a (Val.of rfl) ?_
    refine Run.a (Val.of rfl) ?_
    refine Run.a (Val.of rfl) ?_
    refine Run.a (Val.eq (Val.of rfl) (show _ = Value.bool false from congrArg Value.bool (decide_eq_false h1))) ?_
    refine Run.a (Val.of rfl) ?_
    refine Run.a (Val.of rfl) ?_
    refine Run.sk ?_
    refine Run.sk ?_
    refine Run.sk ?_
    refine Run.sk ?_
    refine Run.sk ?_
    refine Run.sk ?_
    refine Run.sk ?_
    refine Run.a (Val.of rfl) ?_
    refine Run.a (Val.of rfl) ?_
    refine Run.nil (RQ.next ?_)
    refine RC.ret ?_; (repeat first | refine RQ.thenRet ?_ | refine RQ.blockRet ?_); exact RQ.ret1 rfl (Res.tmp rfl) fun w' hm => ⟨rfl, hm.fr⟩
  have h1' := Decidable.not_not.1 h1
  rw [decide_eq_true h1', Bool.true_and]
  (repeat refine RC.seq ?_); refine RC.region ?_
  refine Run.a (Val.loadAll tabOk rfl rfl rfl rfl m0 (by rw [List.size_toArray, hl]; rfl)) ?_
  refine Run.op rfl (OpTo.callV Tryz.func88 rfl rfl rfl rfl rfl rfl (fun w' _ => hT w')) (fun _ => ?_)
  refine Run.a (Val.of rfl) ?_
  refine Run.a (Val.of rfl) ?_
  refine Run.opG (Wanted.guard rfl rfl rfl rfl) (OpTo.callV Tryz.func89 rfl rfl rfl rfl rfl rfl (fun w' _ => within_calls e 0 400 w')) (fun _ => ?_)
  refine Run.a (Val.eq (Val.of rfl) (show _ = Value.bool true from congrArg Value.bool (decide_eq_true he2))) ?_
  refine Run.a (Val.of rfl) ?_
  refine Run.a (Val.of rfl) ?_
  refine Run.a (Val.of rfl) ?_
  refine Run.a (Val.eq (Val.of rfl) (show _ = Value.bool true from congrArg Value.bool (decide_eq_true h1'))) ?_
  refine Run.a (Val.of rfl) ?_
  refine Run.a (Val.of rfl) ?_
  refine Run.a (Val.of rfl) ?_
  refine Run.a (Val.of rfl) ?_
  refine Run.a (Val.fieldAddr tabOk rfl rfl rfl rfl rfl rfl rfl rfl) ?_
  refine Run.a (Val.fieldAddr tabOk rfl rfl rfl rfl rfl rfl rfl rfl) ?_
  refine Run.a (Val.load (v := .int .i64 wd) tabOk rfl rfl rfl m0 rfl) ?_
  refine Run.a (Val.ar rfl rfl rfl rfl (by dsimp only [inK]; omega)) ?_
  refine Run.a (Val.of rfl) ?_
  refine Run.a (Val.of rfl) ?_
  refine Run.a (Val.of rfl) ?_
  refine Run.nil (RQ.next ?_)
  refine RC.ret ?_; (repeat first | refine RQ.thenRet ?_ | refine RQ.blockRet ?_); exact RQ.ret1 rfl (Res.tmp rfl) fun w' hm => ⟨rfl, hm.fr⟩

set_option maxRecDepth 10000 in set_option maxHeartbeats 4000000 in
theorem ref_Open_calls (ln wd nd made : Int) (kv : Value) (rest : List Value) (hr : rest.length = 37) (hko : kv.oneCell' = true) (e h : Int) (w : World) :
    Gives Tryz.prog 34 [.agg (sideC ln wd nd kv made rest).toArray, .int .i64 e, .int .i64 h] (.bool (openB made ln wd e h)) w := by
  refine enter Tryz.func34 rfl (Mem.nil w []) rfl ?_
  have hl := sideC_len (ln := ln) (wd := wd) (nd := nd) (kv := kv) (made := made) hr
  have hT := fun w' => Fair_calls ln wd nd made kv rest hr w'
  have hE := fun w' => ref_Ends_calls ln wd nd made kv rest hr hko e w'
  have hb := ends_lt (made := made) (ln := ln) (wd := wd) (e := e)
  (repeat refine RC.seq ?_); refine RC.region ?_
  refine Run.nw (New.boxA rfl rfl) ?_
  intro b2
  refine Run.a (Val.of rfl) ?_
  refine Run.nil (RQ.next ?_)
  unfold openB
  generalize endsN made ln wd e = en at *
  by_cases h0 : e < 0
  · rw [decide_eq_false (show ¬ (0 ≤ e ∧ e ≤ 400) by omega), Bool.false_and, Bool.and_false]
    (repeat refine RC.seq ?_); refine RC.region ?_
    refine Run.a (Val.of rfl) ?_
    refine Run.a (Val.eq (Val.of rfl) (show _ = Value.bool true from congrArg Value.bool (decide_eq_true h0))) ?_
    refine Run.a (Val.of rfl) ?_
    refine Run.sk ?_
    refine Run.sk ?_
    refine Run.a (Val.of rfl) ?_
    refine Run.a (Val.of rfl) ?_
    refine Run.sk ?_
    refine Run.sk ?_
    refine Run.sk ?_
    refine Run.a (Val.of rfl) ?_
    refine Run.nil (RQ.next ?_)
    (repeat refine RC.seq ?_); refine RC.condT rfl rfl ?_
    (repeat refine RC.seq ?_); refine RC.region ?_
    refine Run.a (Val.of rfl) ?_
    refine Run.nil (RQ.next ?_)
    refine RC.ret ?_; (repeat first | refine RQ.thenRet ?_ | refine RQ.blockRet ?_); exact RQ.ret1 rfl (Res.tmp rfl) fun w' hm => ⟨rfl, hm.fr⟩
  by_cases h4 : 400 < e
  · rw [decide_eq_false (show ¬ (0 ≤ e ∧ e ≤ 400) by omega), Bool.false_and, Bool.and_false]
    (repeat refine RC.seq ?_); refine RC.region ?_
    refine Run.a (Val.of rfl) ?_
    refine Run.a (Val.eq (Val.of rfl) (show _ = Value.bool false from congrArg Value.bool (decide_eq_false h0))) ?_
    refine Run.a (Val.of rfl) ?_
    refine Run.a (Val.of rfl) ?_
    refine Run.a (Val.eq (Val.of rfl) (show _ = Value.bool true from congrArg Value.bool (decide_eq_true h4))) ?_
    refine Run.a (Val.of rfl) ?_
    refine Run.a (Val.of rfl) ?_
    refine Run.sk ?_
    refine Run.sk ?_
    refine Run.sk ?_
    refine Run.a (Val.of rfl) ?_
    refine Run.nil (RQ.next ?_)
    (repeat refine RC.seq ?_); refine RC.condT rfl rfl ?_
    (repeat refine RC.seq ?_); refine RC.region ?_
    refine Run.a (Val.of rfl) ?_
    refine Run.nil (RQ.next ?_)
    refine RC.ret ?_; (repeat first | refine RQ.thenRet ?_ | refine RQ.blockRet ?_); exact RQ.ret1 rfl (Res.tmp rfl) fun w' hm => ⟨rfl, hm.fr⟩
  cases ht : timedB made ln wd
  · rw [ht] at hT
    rw [Bool.false_and]
    (repeat refine RC.seq ?_); refine RC.region ?_
    refine Run.a (Val.of rfl) ?_
    refine Run.a (Val.eq (Val.of rfl) (show _ = Value.bool false from congrArg Value.bool (decide_eq_false h0))) ?_
    refine Run.a (Val.of rfl) ?_
    refine Run.a (Val.of rfl) ?_
    refine Run.a (Val.eq (Val.of rfl) (show _ = Value.bool false from congrArg Value.bool (decide_eq_false h4))) ?_
    refine Run.a (Val.of rfl) ?_
    refine Run.a (Val.of rfl) ?_
    refine Run.a (Val.loadAll tabOk rfl rfl rfl rfl m0 (by rw [List.size_toArray, hl]; rfl)) ?_
    refine Run.opG (Wanted.guard rfl rfl rfl rfl) (OpTo.callV Tryz.func61 rfl rfl rfl rfl rfl rfl (fun w' _ => hT w')) (fun _ => ?_)
    refine Run.a (Val.of rfl) ?_
    refine Run.a (Val.of rfl) ?_
    refine Run.nil (RQ.next ?_)
    (repeat refine RC.seq ?_); refine RC.condT rfl rfl ?_
    (repeat refine RC.seq ?_); refine RC.region ?_
    refine Run.a (Val.of rfl) ?_
    refine Run.nil (RQ.next ?_)
    refine RC.ret ?_; (repeat first | refine RQ.thenRet ?_ | refine RQ.blockRet ?_); exact RQ.ret1 rfl (Res.tmp rfl) fun w' hm => ⟨rfl, hm.fr⟩
  rw [ht] at hT
  have htt := timed_yes ht
  rw [Bool.true_and, decide_eq_true (show 0 ≤ e ∧ e ≤ 400 by omega), Bool.true_and]
  (repeat refine RC.seq ?_); refine RC.region ?_
  refine Run.a (Val.of rfl) ?_
  refine Run.a (Val.eq (Val.of rfl) (show _ = Value.bool false from congrArg Value.bool (decide_eq_false h0))) ?_
  refine Run.a (Val.of rfl) ?_
  refine Run.a (Val.of rfl) ?_
  refine Run.a (Val.eq (Val.of rfl) (show _ = Value.bool false from congrArg Value.bool (decide_eq_false h4))) ?_
  refine Run.a (Val.of rfl) ?_
  refine Run.a (Val.of rfl) ?_
  refine Run.a (Val.loadAll tabOk rfl rfl rfl rfl m0 (by rw [List.size_toArray, hl]; rfl)) ?_
  refine Run.opG (Wanted.guard rfl rfl rfl rfl) (OpTo.callV Tryz.func61 rfl rfl rfl rfl rfl rfl (fun w' _ => hT w')) (fun _ => ?_)
  refine Run.a (Val.of rfl) ?_
  refine Run.a (Val.of rfl) ?_
  refine Run.nil (RQ.next ?_)
  (repeat refine RC.seq ?_); refine RC.condF rfl rfl (RC.skip (RQ.next ?_))
  by_cases h1 : ¬ en < h
  · rw [decide_eq_false h1, Bool.false_and]
    (repeat refine RC.seq ?_); refine RC.drawS mixed (N := 17) rfl ?_
    refine DR.t 0 rfl (Val.of rfl) ?_
    refine DR.t 1 rfl (Val.loadAll tabOk rfl rfl rfl rfl m0 (by rw [List.size_toArray, hl]; rfl)) ?_
    refine DR.t 2 rfl (Val.of rfl) ?_
    refine DR.c 3 ?_
    refine DOp.op1 rfl (OpTo.callV Tryz.func62 rfl rfl rfl rfl rfl rfl (fun w' _ => hE w')) (fun _ => ?_)
    refine DR.t 4 rfl (Val.eq (Val.of rfl) (show _ = Value.bool false from congrArg Value.bool (decide_eq_false h1))) ?_
    refine DR.t 5 rfl (Val.of rfl) ?_
    refine DR.p 6 rfl ?_
    refine DR.p 7 rfl ?_
    refine DR.p 8 rfl ?_
    refine DR.p 10 rfl ?_
    refine DR.p 11 rfl ?_
    refine DR.p 12 rfl ?_
    refine DR.cp 9 rfl ?_
    refine DR.p 13 rfl ?_
    refine DR.p 14 rfl ?_
    refine DR.t 15 rfl (Val.of rfl) ?_
    refine DR.t 16 rfl (Val.of rfl) ?_
    refine DR.done (by kernel_rfl) (RQ.next ?_)
    refine RC.ret ?_; (repeat first | refine RQ.thenRet ?_ | refine RQ.blockRet ?_); exact RQ.ret1 rfl (Res.tmp rfl) fun w' hm => ⟨rfl, hm.fr⟩
  have h1' := Decidable.not_not.1 h1
  rw [decide_eq_true h1', Bool.true_and]
  (repeat refine RC.seq ?_); refine RC.drawS mixed (N := 17) rfl ?_
  refine DR.t 0 rfl (Val.of rfl) ?_
  refine DR.t 1 rfl (Val.loadAll tabOk rfl rfl rfl rfl m0 (by rw [List.size_toArray, hl]; rfl)) ?_
  refine DR.t 2 rfl (Val.of rfl) ?_
  refine DR.c 3 ?_
  refine DOp.op1 rfl (OpTo.callV Tryz.func62 rfl rfl rfl rfl rfl rfl (fun w' _ => hE w')) (fun _ => ?_)
  refine DR.t 4 rfl (Val.eq (Val.of rfl) (show _ = Value.bool true from congrArg Value.bool (decide_eq_true h1'))) ?_
  refine DR.t 5 rfl (Val.of rfl) ?_
  refine DR.t 6 rfl (Val.of rfl) ?_
  refine DR.t 7 rfl (Val.loadAll tabOk rfl rfl rfl rfl m0 (by rw [List.size_toArray, hl]; rfl)) ?_
  refine DR.t 8 rfl (Val.of rfl) ?_
  refine DR.t 10 rfl (Val.fieldAddr tabOk rfl rfl rfl rfl rfl rfl rfl rfl) ?_
  refine DR.t 11 rfl (Val.fieldAddr tabOk rfl rfl rfl rfl rfl rfl rfl rfl) ?_
  refine DR.t 12 rfl (Val.load (v := .int .i64 wd) tabOk rfl rfl rfl m0 rfl) ?_
  refine DR.c 9 ?_
  refine DOp.op1 rfl (OpTo.callV Tryz.func62 rfl rfl rfl rfl rfl rfl (fun w' _ => hE w')) (fun _ => ?_)
  refine DR.t 13 rfl (Val.ar rfl rfl rfl rfl (by dsimp only [inK]; omega)) ?_
  refine DR.t 14 rfl (Val.of rfl) ?_
  refine DR.t 15 rfl (Val.of rfl) ?_
  refine DR.t 16 rfl (Val.of rfl) ?_
  refine DR.done (by kernel_rfl) (RQ.next ?_)
  refine RC.ret ?_; (repeat first | refine RQ.thenRet ?_ | refine RQ.blockRet ?_); exact RQ.ret1 rfl (Res.tmp rfl) fun w' hm => ⟨rfl, hm.fr⟩
end Go.Proofs.YtkkfaffehbjdgaaGreatDoor
end
