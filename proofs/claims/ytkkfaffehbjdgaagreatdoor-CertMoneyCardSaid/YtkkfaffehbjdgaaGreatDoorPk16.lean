/- Lemmas. -/
import Derived.Test.YtkkfaffehbjdgaaGreatDoorPk15
set_option linter.unusedSimpArgs false
set_option linter.unusedVariables false
section
/- registry: within, timed, Epoch, Ends, Open, and the reference's. -/
namespace Go.Sha
/-- A record's cells: its parameters, its height, and the rest. -/
def sideC (ln wd nd : Int) (kv : Go.Value) (made : Int) (rest : List Go.Value) : List Go.Value := prm ln wd nd kv ++ (.int .i64 made :: rest)
theorem sideC_len {ln wd nd : Int} {kv : Go.Value} {made : Int} {rest : List Go.Value} (h : rest.length = 37) : (sideC ln wd nd kv made rest).length = 42 := by
  simp [sideC, prm, h]
theorem sideC_prm {ln wd nd : Int} {kv : Go.Value} {made : Int} {rest : List Go.Value} : ∀ j u, (prm ln wd nd kv)[j]? = some u → (sideC ln wd nd kv made rest).toArray[0 + j]? = some u := by
  intro j u hj
  rw [Nat.zero_add, List.getElem?_toArray, sideC, List.getElem?_append_left (List.getElem?_eq_some_iff.1 hj).1]
  exact hj
def timedB (made ln wd : Int) : Bool := decide (1 ≤ ln ∧ ln ≤ 64 ∧ 0 ≤ wd ∧ wd ≤ 64 ∧ 0 ≤ made ∧ made ≤ 400)
theorem timed_no {made ln wd : Int} (h : ¬ (1 ≤ ln ∧ ln ≤ 64 ∧ 0 ≤ wd ∧ wd ≤ 64 ∧ 0 ≤ made ∧ made ≤ 400)) : timedB made ln wd = false := decide_eq_false h
theorem timed_yes {made ln wd : Int} (h : timedB made ln wd = true) : 1 ≤ ln ∧ ln ≤ 64 ∧ 0 ≤ wd ∧ wd ≤ 64 ∧ 0 ≤ made ∧ made ≤ 400 := of_decide_eq_true h
def endsN (made ln wd e : Int) : Int := if timedB made ln wd = true ∧ (0 ≤ e ∧ e ≤ 400) then made + (e + 1) * ln else 0
theorem ends_no {made ln wd e : Int} (h : ¬ (timedB made ln wd = true ∧ (0 ≤ e ∧ e ≤ 400))) : endsN made ln wd e = 0 := if_neg h
theorem ends_yes {made ln wd e : Int} (h1 : timedB made ln wd = true) (h2 : 0 ≤ e ∧ e ≤ 400) : endsN made ln wd e = made + (e + 1) * ln := if_pos ⟨h1, h2⟩
def openB (made ln wd e h : Int) : Bool := timedB made ln wd && (decide (0 ≤ e ∧ e ≤ 400) && (decide (endsN made ln wd e < h) && decide (h ≤ endsN made ln wd e + wd)))
theorem ends_lt {made ln wd e : Int} : 0 ≤ endsN made ln wd e ∧ endsN made ln wd e ≤ 30000 := by
  unfold endsN
  split
  · rename_i h
    have ht := timed_yes h.1
    obtain ⟨a, ha⟩ := Int.eq_ofNat_of_zero_le (show 0 ≤ e + 1 by omega)
    obtain ⟨b, hb⟩ := Int.eq_ofNat_of_zero_le (show 0 ≤ ln by omega)
    rw [ha, hb]
    have h1 : a * b ≤ 401 * 64 := Nat.mul_le_mul (by omega) (by omega)
    have e1 : (a : Int) * (b : Int) = ((a * b : Nat) : Int) := by rw [Int.natCast_mul]
    rw [e1]
    omega
  · omega
end Go.Sha
namespace Go.Proofs.YtkkfaffehbjdgaaGreatDoor
open Go Go.Vc Go.Sha

set_option maxRecDepth 10000 in set_option maxHeartbeats 4000000 in
theorem within_calls (z a b : Int) (w : World) : Gives Tryz.prog 89 [.int .i64 z, .int .i64 a, .int .i64 b] (.bool (decide (a ≤ z ∧ z ≤ b))) w := by
  refine enter Tryz.func89 rfl (Mem.nil w []) rfl ?_
  (repeat refine RC.seq ?_); refine RC.region ?_
  refine Run.a (Val.of rfl) ?_
  refine Run.nil (RQ.next ?_)
  by_cases h : a ≤ z
  · (repeat refine RC.seq ?_); refine RC.region ?_
    refine Run.a (Val.of rfl) ?_
    refine Run.a (Val.of rfl) ?_
    refine Run.a (Val.eq (Val.of rfl) (show _ = Value.bool true from congrArg Value.bool (decide_eq_true h))) ?_
    refine Run.a (Val.of rfl) ?_
    refine Run.a (Val.of rfl) ?_
    refine Run.a (Val.of rfl) ?_
    refine Run.a (Val.eq (Val.of rfl) (show _ = Value.bool (decide (a ≤ z ∧ z ≤ b)) from congrArg Value.bool (by rw [decide_eq_decide]; exact ⟨fun h2 => ⟨h, h2⟩, fun h2 => h2.2⟩))) ?_
    refine Run.a (Val.of rfl) ?_
    refine Run.a (Val.of rfl) ?_
    refine Run.nil (RQ.next ?_)
    refine RC.ret ?_; (repeat first | refine RQ.thenRet ?_ | refine RQ.blockRet ?_); exact RQ.ret1 rfl (Res.tmp rfl) fun w' hm => ⟨rfl, hm.fr⟩
  · rw [show decide (a ≤ z ∧ z ≤ b) = false from decide_eq_false fun h2 => h h2.1]
    (repeat refine RC.seq ?_); refine RC.region ?_
    refine Run.a (Val.of rfl) ?_
    refine Run.a (Val.of rfl) ?_
    refine Run.a (Val.eq (Val.of rfl) (show _ = Value.bool false from congrArg Value.bool (decide_eq_false h))) ?_
    refine Run.a (Val.of rfl) ?_
    refine Run.sk ?_
    refine Run.sk ?_
    refine Run.sk ?_
    refine Run.a (Val.of rfl) ?_
    refine Run.a (Val.of rfl) ?_
    refine Run.nil (RQ.next ?_)
    refine RC.ret ?_; (repeat first | refine RQ.thenRet ?_ | refine RQ.blockRet ?_); exact RQ.ret1 rfl (Res.tmp rfl) fun w' hm => ⟨rfl, hm.fr⟩

set_option maxRecDepth 10000 in set_option maxHeartbeats 4000000 in
theorem timed_calls (ln wd nd made : Int) (kv : Value) (rest : List Value) (hr : rest.length = 37) (hko : kv.oneCell' = true) (w : World) :
    Gives Tryz.prog 88 [.agg (sideC ln wd nd kv made rest).toArray] (.bool (timedB made ln wd)) w := by
  refine enter Tryz.func88 rfl (Mem.nil w []) rfl ?_
  have hl := sideC_len (ln := ln) (wd := wd) (nd := nd) (kv := kv) (made := made) hr
  (repeat refine RC.seq ?_); refine RC.region ?_
  refine Run.nw (New.boxA rfl rfl) ?_
  intro b1
  refine Run.a (Val.of rfl) ?_
  refine Run.nil (RQ.next ?_)
  (repeat refine RC.seq ?_); refine RC.region ?_
  refine Run.a (Val.fieldAddr tabOk rfl rfl rfl rfl rfl rfl rfl rfl) ?_
  refine Run.a (Val.loadR (cs := prm ln wd nd kv) tabOk rfl rfl rfl rfl rfl (Rd.row m0 sideC_prm)) ?_
  refine Run.nw (New.allocTo tabOk (cs := (prm 0 0 0 (.slice none 0 0)).toArray) rfl rfl rfl) ?_
  intro b3
  refine Run.op1 (OpTo.setV tabOk [] (prm 0 0 0 (.slice none 0 0)) (prm ln wd nd kv) [] rfl rfl rfl rfl rfl (List.Perm.refl _) rfl (by simp) rfl rfl rfl (by intro u hu; simp only [prm, List.mem_cons, List.not_mem_nil, or_false] at hu; rcases hu with rfl | rfl | rfl | rfl <;> first | rfl | exact hko)) (fun _ => ?_)
  rw [List.nil_append, List.append_nil]
  refine Run.nil (RQ.next ?_)
  by_cases h1 : 1 ≤ ln ∧ ln ≤ 64
  · by_cases h2 : 0 ≤ wd ∧ wd ≤ 64
    · rw [show timedB made ln wd = decide (0 ≤ made ∧ made ≤ 400) from by unfold timedB; rw [decide_eq_decide]; omega]
      (repeat refine RC.seq ?_); refine RC.region ?_
      refine Run.a (Val.fieldAddr tabOk rfl rfl rfl rfl rfl rfl rfl rfl) ?_
      refine Run.a (Val.load (v := .int .i64 ln) tabOk rfl rfl rfl m0 rfl) ?_
      refine Run.op rfl (OpTo.callV Tryz.func89 rfl rfl rfl rfl rfl rfl (fun w' _ => within_calls ln 1 64 w')) (fun _ => ?_)
      refine Run.a (Val.eq (Val.of rfl) (show _ = Value.bool true from congrArg Value.bool (decide_eq_true h1))) ?_
      refine Run.a (Val.fieldAddr tabOk rfl rfl rfl rfl rfl rfl rfl rfl) ?_
      refine Run.a (Val.load (v := .int .i64 wd) tabOk rfl rfl rfl m0 rfl) ?_
      refine Run.opG (Wanted.guard rfl rfl rfl rfl) (OpTo.callV Tryz.func89 rfl rfl rfl rfl rfl rfl (fun w' _ => within_calls wd 0 64 w')) (fun _ => ?_)
      refine Run.a (Val.eq (Val.of rfl) (show _ = Value.bool true from congrArg Value.bool (decide_eq_true h2))) ?_
      refine Run.a (Val.of rfl) ?_
      refine Run.a (Val.fieldAddr tabOk rfl rfl rfl rfl rfl rfl rfl rfl) ?_
      refine Run.a (Val.load (v := .int .i64 made) tabOk rfl rfl rfl m1 rfl) ?_
      refine Run.opG (Wanted.guard rfl rfl rfl rfl) (OpTo.callV Tryz.func89 rfl rfl rfl rfl rfl rfl (fun w' _ => within_calls made 0 400 w')) (fun _ => ?_)
      refine Run.a (Val.of rfl) ?_
      refine Run.a (Val.of rfl) ?_
      refine Run.nil (RQ.next ?_)
      refine RC.ret ?_; (repeat first | refine RQ.thenRet ?_ | refine RQ.blockRet ?_); exact RQ.ret1 rfl (Res.tmp rfl) fun w' hm => ⟨rfl, hm.fr⟩
    · rw [timed_no (by omega)]
      (repeat refine RC.seq ?_); refine RC.region ?_
      refine Run.a (Val.fieldAddr tabOk rfl rfl rfl rfl rfl rfl rfl rfl) ?_
      refine Run.a (Val.load (v := .int .i64 ln) tabOk rfl rfl rfl m0 rfl) ?_
      refine Run.op rfl (OpTo.callV Tryz.func89 rfl rfl rfl rfl rfl rfl (fun w' _ => within_calls ln 1 64 w')) (fun _ => ?_)
      refine Run.a (Val.eq (Val.of rfl) (show _ = Value.bool true from congrArg Value.bool (decide_eq_true h1))) ?_
      refine Run.a (Val.fieldAddr tabOk rfl rfl rfl rfl rfl rfl rfl rfl) ?_
      refine Run.a (Val.load (v := .int .i64 wd) tabOk rfl rfl rfl m0 rfl) ?_
      refine Run.opG (Wanted.guard rfl rfl rfl rfl) (OpTo.callV Tryz.func89 rfl rfl rfl rfl rfl rfl (fun w' _ => within_calls wd 0 64 w')) (fun _ => ?_)
      refine Run.a (Val.eq (Val.of rfl) (show _ = Value.bool false from congrArg Value.bool (decide_eq_false h2))) ?_
      refine Run.a (Val.of rfl) ?_
      refine Run.sk ?_
      refine Run.sk ?_
      refine Run.sk ?_
      refine Run.a (Val.of rfl) ?_
      refine Run.a (Val.of rfl) ?_
      refine Run.nil (RQ.next ?_)
      refine RC.ret ?_; (repeat first | refine RQ.thenRet ?_ | refine RQ.blockRet ?_); exact RQ.ret1 rfl (Res.tmp rfl) fun w' hm => ⟨rfl, hm.fr⟩
  · rw [timed_no (by omega)]
    (repeat refine RC.seq ?_); refine RC.region ?_
    refine Run.a (Val.fieldAddr tabOk rfl rfl rfl rfl rfl rfl rfl rfl) ?_
    refine Run.a (Val.load (v := .int .i64 ln) tabOk rfl rfl rfl m0 rfl) ?_
    refine Run.op rfl (OpTo.callV Tryz.func89 rfl rfl rfl rfl rfl rfl (fun w' _ => within_calls ln 1 64 w')) (fun _ => ?_)
    refine Run.a (Val.eq (Val.of rfl) (show _ = Value.bool false from congrArg Value.bool (decide_eq_false h1))) ?_
    refine Run.sk ?_
    refine Run.sk ?_
    refine Run.sk ?_
    refine Run.a (Val.of rfl) ?_
    refine Run.a (Val.of rfl) ?_
    refine Run.sk ?_
    refine Run.sk ?_
    refine Run.sk ?_
    refine Run.a (Val.of rfl) ?_
    refine Run.a (Val.of rfl) ?_
    refine Run.nil (RQ.next ?_)
    refine RC.ret ?_; (repeat first | refine RQ.thenRet ?_ | refine RQ.blockRet ?_); exact RQ.ret1 rfl (Res.tmp rfl) fun w' hm => ⟨rfl, hm.fr⟩

set_option maxRecDepth 10000 in set_option maxHeartbeats 4000000 in
theorem Fair_calls (ln wd nd made : Int) (kv : Value) (rest : List Value) (hr : rest.length = 37) (w : World) :
    Gives Tryz.prog 61 [.agg (sideC ln wd nd kv made rest).toArray] (.bool (timedB made ln wd)) w := by
  refine enter Tryz.func61 rfl (Mem.nil w []) rfl ?_
  (repeat refine RC.seq ?_); refine RC.region ?_
  refine Run.nw (New.boxA rfl rfl) ?_
  intro b1
  refine Run.a (Val.of rfl) ?_
  refine Run.nil (RQ.next ?_)
  by_cases h0 : ¬ 1 ≤ ln
  · rw [timed_no (by omega)]
    (repeat refine RC.seq ?_); refine RC.region ?_
    refine Run.a (Val.fieldAddr tabOk rfl rfl rfl rfl rfl rfl rfl rfl) ?_
    refine Run.a (Val.fieldAddr tabOk rfl rfl rfl rfl rfl rfl rfl rfl) ?_
    refine Run.a (Val.load (v := .int .i64 ln) tabOk rfl rfl rfl m0 rfl) ?_
    refine Run.a (Val.eq (Val.of rfl) (show _ = Value.bool false from congrArg Value.bool (decide_eq_false (by omega)))) ?_
    refine Run.a (Val.of rfl) ?_
    refine Run.sk ?_
    refine Run.sk ?_
    refine Run.sk ?_
    refine Run.sk ?_
    refine Run.a (Val.of rfl) ?_
    refine Run.a (Val.of rfl) ?_
    refine Run.sk ?_
    refine Run.sk ?_
    refine Run.sk ?_
    refine Run.sk ?_
    refine Run.a (Val.of rfl) ?_
    refine Run.a (Val.of rfl) ?_
    refine Run.sk ?_
    refine Run.sk ?_
    refine Run.sk ?_
    refine Run.sk ?_
    refine Run.a (Val.of rfl) ?_
    refine Run.a (Val.of rfl) ?_
    refine Run.sk ?_
    refine Run.sk ?_
    refine Run.sk ?_
    refine Run.a (Val.of rfl) ?_
    refine Run.a (Val.of rfl) ?_
    refine Run.sk ?_
    refine Run.sk ?_
    refine Run.sk ?_
    refine Run.a (Val.of rfl) ?_
    refine Run.a (Val.of rfl) ?_
    refine Run.nil (RQ.next ?_)
    refine RC.ret ?_; (repeat first | refine RQ.thenRet ?_ | refine RQ.blockRet ?_); exact RQ.ret1 rfl (Res.tmp rfl) fun w' hm => ⟨rfl, hm.fr⟩
  by_cases h1 : ¬ ln ≤ 64
  · rw [timed_no (by omega)]
    (repeat refine RC.seq ?_); refine RC.region ?_
    refine Run.a (Val.fieldAddr tabOk rfl rfl rfl rfl rfl rfl rfl rfl) ?_
    refine Run.a (Val.fieldAddr tabOk rfl rfl rfl rfl rfl rfl rfl rfl) ?_
    refine Run.a (Val.load (v := .int .i64 ln) tabOk rfl rfl rfl m0 rfl) ?_
    refine Run.a (Val.eq (Val.of rfl) (show _ = Value.bool true from congrArg Value.bool (decide_eq_true (by omega)))) ?_
    refine Run.a (Val.of rfl) ?_
    refine Run.a (Val.fieldAddr tabOk rfl rfl rfl rfl rfl rfl rfl rfl) ?_
    refine Run.a (Val.fieldAddr tabOk rfl rfl rfl rfl rfl rfl rfl rfl) ?_
    refine Run.a (Val.load (v := .int .i64 ln) tabOk rfl rfl rfl m0 rfl) ?_
    refine Run.a (Val.eq (Val.of rfl) (show _ = Value.bool false from congrArg Value.bool (decide_eq_false (by omega)))) ?_
    refine Run.a (Val.of rfl) ?_
    refine Run.a (Val.of rfl) ?_
    refine Run.sk ?_
    refine Run.sk ?_
    refine Run.sk ?_
    refine Run.sk ?_
    refine Run.a (Val.of rfl) ?_
    refine Run.a (Val.of rfl) ?_
    refine Run.sk ?_
    refine Run.sk ?_
    refine Run.sk ?_
    refine Run.sk ?_
    refine Run.a (Val.of rfl) ?_
    refine Run.a (Val.of rfl) ?_
    refine Run.sk ?_
    refine Run.sk ?_
    refine Run.sk ?_
    refine Run.a (Val.of rfl) ?_
    refine Run.a (Val.of rfl) ?_
    refine Run.sk ?_
    refine Run.sk ?_
    refine Run.sk ?_
    refine Run.a (Val.of rfl) ?_
    refine Run.a (Val.of rfl) ?_
    refine Run.nil (RQ.next ?_)
    refine RC.ret ?_; (repeat first | refine RQ.thenRet ?_ | refine RQ.blockRet ?_); exact RQ.ret1 rfl (Res.tmp rfl) fun w' hm => ⟨rfl, hm.fr⟩
  by_cases h2 : ¬ 0 ≤ wd
  · rw [timed_no (by omega)]
    (repeat refine RC.seq ?_); refine RC.region ?_
    refine Run.a (Val.fieldAddr tabOk rfl rfl rfl rfl rfl rfl rfl rfl) ?_
    refine Run.a (Val.fieldAddr tabOk rfl rfl rfl rfl rfl rfl rfl rfl) ?_
    refine Run.a (Val.load (v := .int .i64 ln) tabOk rfl rfl rfl m0 rfl) ?_
    refine Run.a (Val.eq (Val.of rfl) (show _ = Value.bool true from congrArg Value.bool (decide_eq_true (by omega)))) ?_
    refine Run.a (Val.of rfl) ?_
    refine Run.a (Val.fieldAddr tabOk rfl rfl rfl rfl rfl rfl rfl rfl) ?_
    refine Run.a (Val.fieldAddr tabOk rfl rfl rfl rfl rfl rfl rfl rfl) ?_
    refine Run.a (Val.load (v := .int .i64 ln) tabOk rfl rfl rfl m0 rfl) ?_
    refine Run.a (Val.eq (Val.of rfl) (show _ = Value.bool true from congrArg Value.bool (decide_eq_true (by omega)))) ?_
    refine Run.a (Val.of rfl) ?_
    refine Run.a (Val.of rfl) ?_
    refine Run.a (Val.fieldAddr tabOk rfl rfl rfl rfl rfl rfl rfl rfl) ?_
    refine Run.a (Val.fieldAddr tabOk rfl rfl rfl rfl rfl rfl rfl rfl) ?_
    refine Run.a (Val.load (v := .int .i64 wd) tabOk rfl rfl rfl m0 rfl) ?_
    refine Run.a (Val.eq (Val.of rfl) (show _ = Value.bool false from congrArg Value.bool (decide_eq_false (by omega)))) ?_
    refine Run.a (Val.of rfl) ?_
    refine Run.a (Val.of rfl) ?_
    refine Run.sk ?_
    refine Run.sk ?_
    refine Run.sk ?_
    refine Run.sk ?_
    refine Run.a (Val.of rfl) ?_
    refine Run.a (Val.of rfl) ?_
    refine Run.sk ?_
    refine Run.sk ?_
    refine Run.sk ?_
    refine Run.a (Val.of rfl) ?_
    refine Run.a (Val.of rfl) ?_
    refine Run.sk ?_
    refine Run.sk ?_
    refine Run.sk ?_
    refine Run.a (Val.of rfl) ?_
    refine Run.a (Val.of rfl) ?_
    refine Run.nil (RQ.next ?_)
    refine RC.ret ?_; (repeat first | refine RQ.thenRet ?_ | refine RQ.blockRet ?_); exact RQ.ret1 rfl (Res.tmp rfl) fun w' hm => ⟨rfl, hm.fr⟩
  by_cases h3 : ¬ wd ≤ 64
  · rw [timed_no (by omega)]
    (repeat refine RC.seq ?_); refine RC.region ?_
    refine Run.a (Val.fieldAddr tabOk rfl rfl rfl rfl rfl rfl rfl rfl) ?_
    refine Run.a (Val.fieldAddr tabOk rfl rfl rfl rfl rfl rfl rfl rfl) ?_
    refine Run.a (Val.load (v := .int .i64 ln) tabOk rfl rfl rfl m0 rfl) ?_
    refine Run.a (Val.eq (Val.of rfl) (show _ = Value.bool true from congrArg Value.bool (decide_eq_true (by omega)))) ?_
    refine Run.a (Val.of rfl) ?_
    refine Run.a (Val.fieldAddr tabOk rfl rfl rfl rfl rfl rfl rfl rfl) ?_
    refine Run.a (Val.fieldAddr tabOk rfl rfl rfl rfl rfl rfl rfl rfl) ?_
    refine Run.a (Val.load (v := .int .i64 ln) tabOk rfl rfl rfl m0 rfl) ?_
    refine Run.a (Val.eq (Val.of rfl) (show _ = Value.bool true from congrArg Value.bool (decide_eq_true (by omega)))) ?_
    refine Run.a (Val.of rfl) ?_
    refine Run.a (Val.of rfl) ?_
    refine Run.a (Val.fieldAddr tabOk rfl rfl rfl rfl rfl rfl rfl rfl) ?_
    refine Run.a (Val.fieldAddr tabOk rfl rfl rfl rfl rfl rfl rfl rfl) ?_
    refine Run.a (Val.load (v := .int .i64 wd) tabOk rfl rfl rfl m0 rfl) ?_
    refine Run.a (Val.eq (Val.of rfl) (show _ = Value.bool true from congrArg Value.bool (decide_eq_true (by omega)))) ?_
    refine Run.a (Val.of rfl) ?_
    refine Run.a (Val.of rfl) ?_
    refine Run.a (Val.fieldAddr tabOk rfl rfl rfl rfl rfl rfl rfl rfl) ?_
    refine Run.a (Val.fieldAddr tabOk rfl rfl rfl rfl rfl rfl rfl rfl) ?_
    refine Run.a (Val.load (v := .int .i64 wd) tabOk rfl rfl rfl m0 rfl) ?_
    refine Run.a (Val.eq (Val.of rfl) (show _ = Value.bool false from congrArg Value.bool (decide_eq_false (by omega)))) ?_
    refine Run.a (Val.of rfl) ?_
    refine Run.a (Val.of rfl) ?_
    refine Run.sk ?_
    refine Run.sk ?_
    refine Run.sk ?_
    refine Run.a (Val.of rfl) ?_
    refine Run.a (Val.of rfl) ?_
    refine Run.sk ?_
    refine Run.sk ?_
    refine Run.sk ?_
    refine Run.a (Val.of rfl) ?_
    refine Run.a (Val.of rfl) ?_
    refine Run.nil (RQ.next ?_)
    refine RC.ret ?_; (repeat first | refine RQ.thenRet ?_ | refine RQ.blockRet ?_); exact RQ.ret1 rfl (Res.tmp rfl) fun w' hm => ⟨rfl, hm.fr⟩
  by_cases h4 : ¬ 0 ≤ made
  · rw [timed_no (by omega)]
    (repeat refine RC.seq ?_); refine RC.region ?_
    refine Run.a (Val.fieldAddr tabOk rfl rfl rfl rfl rfl rfl rfl rfl) ?_
    refine Run.a (Val.fieldAddr tabOk rfl rfl rfl rfl rfl rfl rfl rfl) ?_
    refine Run.a (Val.load (v := .int .i64 ln) tabOk rfl rfl rfl m0 rfl) ?_
    refine Run.a (Val.eq (Val.of rfl) (show _ = Value.bool true from congrArg Value.bool (decide_eq_true (by omega)))) ?_
    refine Run.a (Val.of rfl) ?_
    refine Run.a (Val.fieldAddr tabOk rfl rfl rfl rfl rfl rfl rfl rfl) ?_
    refine Run.a (Val.fieldAddr tabOk rfl rfl rfl rfl rfl rfl rfl rfl) ?_
    refine Run.a (Val.load (v := .int .i64 ln) tabOk rfl rfl rfl m0 rfl) ?_
    refine Run.a (Val.eq (Val.of rfl) (show _ = Value.bool true from congrArg Value.bool (decide_eq_true (by omega)))) ?_
    refine Run.a (Val.of rfl) ?_
    refine Run.a (Val.of rfl) ?_
    refine Run.a (Val.fieldAddr tabOk rfl rfl rfl rfl rfl rfl rfl rfl) ?_
    refine Run.a (Val.fieldAddr tabOk rfl rfl rfl rfl rfl rfl rfl rfl) ?_
    refine Run.a (Val.load (v := .int .i64 wd) tabOk rfl rfl rfl m0 rfl) ?_
    refine Run.a (Val.eq (Val.of rfl) (show _ = Value.bool true from congrArg Value.bool (decide_eq_true (by omega)))) ?_
    refine Run.a (Val.of rfl) ?_
    refine Run.a (Val.of rfl) ?_
    refine Run.a (Val.fieldAddr tabOk rfl rfl rfl rfl rfl rfl rfl rfl) ?_
    refine Run.a (Val.fieldAddr tabOk rfl rfl rfl rfl rfl rfl rfl rfl) ?_
    refine Run.a (Val.load (v := .int .i64 wd) tabOk rfl rfl rfl m0 rfl) ?_
    refine Run.a (Val.eq (Val.of rfl) (show _ = Value.bool true from congrArg Value.bool (decide_eq_true (by omega)))) ?_
    refine Run.a (Val.of rfl) ?_
    refine Run.a (Val.of rfl) ?_
    refine Run.a (Val.fieldAddr tabOk rfl rfl rfl rfl rfl rfl rfl rfl) ?_
    refine Run.a (Val.load (v := .int .i64 made) tabOk rfl rfl rfl m0 rfl) ?_
    refine Run.a (Val.eq (Val.of rfl) (show _ = Value.bool false from congrArg Value.bool (decide_eq_false (by omega)))) ?_
    refine Run.a (Val.of rfl) ?_
    refine Run.a (Val.of rfl) ?_
    refine Run.sk ?_
    refine Run.sk ?_
    refine Run.sk ?_
    refine Run.a (Val.of rfl) ?_
    refine Run.a (Val.of rfl) ?_
    refine Run.nil (RQ.next ?_)
    refine RC.ret ?_; (repeat first | refine RQ.thenRet ?_ | refine RQ.blockRet ?_); exact RQ.ret1 rfl (Res.tmp rfl) fun w' hm => ⟨rfl, hm.fr⟩
  by_cases h5 : ¬ made ≤ 400
  · rw [timed_no (by omega)]
    (repeat refine RC.seq ?_); refine RC.region ?_
    refine Run.a (Val.fieldAddr tabOk rfl rfl rfl rfl rfl rfl rfl rfl) ?_
    refine Run.a (Val.fieldAddr tabOk rfl rfl rfl rfl rfl rfl rfl rfl) ?_
    refine Run.a (Val.load (v := .int .i64 ln) tabOk rfl rfl rfl m0 rfl) ?_
    refine Run.a (Val.eq (Val.of rfl) (show _ = Value.bool true from congrArg Value.bool (decide_eq_true (by omega)))) ?_
    refine Run.a (Val.of rfl) ?_
    refine Run.a (Val.fieldAddr tabOk rfl rfl rfl rfl rfl rfl rfl rfl) ?_
    refine Run.a (Val.fieldAddr tabOk rfl rfl rfl rfl rfl rfl rfl rfl) ?_
    refine Run.a (Val.load (v := .int .i64 ln) tabOk rfl rfl rfl m0 rfl) ?_
    refine Run.a (Val.eq (Val.of rfl) (show _ = Value.bool true from congrArg Value.bool (decide_eq_true (by omega)))) ?_
    refine Run.a (Val.of rfl) ?_
    refine Run.a (Val.of rfl) ?_
    refine Run.a (Val.fieldAddr tabOk rfl rfl rfl rfl rfl rfl rfl rfl) ?_
    refine Run.a (Val.fieldAddr tabOk rfl rfl rfl rfl rfl rfl rfl rfl) ?_
    refine Run.a (Val.load (v := .int .i64 wd) tabOk rfl rfl rfl m0 rfl) ?_
    refine Run.a (Val.eq (Val.of rfl) (show _ = Value.bool true from congrArg Value.bool (decide_eq_true (by omega)))) ?_
    refine Run.a (Val.of rfl) ?_
    refine Run.a (Val.of rfl) ?_
    refine Run.a (Val.fieldAddr tabOk rfl rfl rfl rfl rfl rfl rfl rfl) ?_
    refine Run.a (Val.fieldAddr tabOk rfl rfl rfl rfl rfl rfl rfl rfl) ?_
    refine Run.a (Val.load (v := .int .i64 wd) tabOk rfl rfl rfl m0 rfl) ?_
    refine Run.a (Val.eq (Val.of rfl) (show _ = Value.bool true from congrArg Value.bool (decide_eq_true (by omega)))) ?_
    refine Run.a (Val.of rfl) ?_
    refine Run.a (Val.of rfl) ?_
    refine Run.a (Val.fieldAddr tabOk rfl rfl rfl rfl rfl rfl rfl rfl) ?_
    refine Run.a (Val.load (v := .int .i64 made) tabOk rfl rfl rfl m0 rfl) ?_
    refine Run.a (Val.eq (Val.of rfl) (show _ = Value.bool true from congrArg Value.bool (decide_eq_true (by omega)))) ?_
    refine Run.a (Val.of rfl) ?_
    refine Run.a (Val.of rfl) ?_
    refine Run.a (Val.fieldAddr tabOk rfl rfl rfl rfl rfl rfl rfl rfl) ?_
    refine Run.a (Val.load (v := .int .i64 made) tabOk rfl rfl rfl m0 rfl) ?_
    refine Run.a (Val.eq (Val.of rfl) (show _ = Value.bool false from congrArg Value.bool (decide_eq_false (by omega)))) ?_
    refine Run.a (Val.of rfl) ?_
    refine Run.a (Val.of rfl) ?_
    refine Run.nil (RQ.next ?_)
    refine RC.ret ?_; (repeat first | refine RQ.thenRet ?_ | refine RQ.blockRet ?_); exact RQ.ret1 rfl (Res.tmp rfl) fun w' hm => ⟨rfl, hm.fr⟩
  rw [show timedB made ln wd = true from decide_eq_true (by omega)]
  (repeat refine RC.seq ?_); refine RC.region ?_
  refine Run.a (Val.fieldAddr tabOk rfl rfl rfl rfl rfl rfl rfl rfl) ?_
  refine Run.a (Val.fieldAddr tabOk rfl rfl rfl rfl rfl rfl rfl rfl) ?_
  refine Run.a (Val.load (v := .int .i64 ln) tabOk rfl rfl rfl m0 rfl) ?_
  refine Run.a (Val.eq (Val.of rfl) (show _ = Value.bool true from congrArg Value.bool (decide_eq_true (by omega)))) ?_
  refine Run.a (Val.of rfl) ?_
  refine Run.a (Val.fieldAddr tabOk rfl rfl rfl rfl rfl rfl rfl rfl) ?_
  refine Run.a (Val.fieldAddr tabOk rfl rfl rfl rfl rfl rfl rfl rfl) ?_
  refine Run.a (Val.load (v := .int .i64 ln) tabOk rfl rfl rfl m0 rfl) ?_
  refine Run.a (Val.eq (Val.of rfl) (show _ = Value.bool true from congrArg Value.bool (decide_eq_true (by omega)))) ?_
  refine Run.a (Val.of rfl) ?_
  refine Run.a (Val.of rfl) ?_
  refine Run.a (Val.fieldAddr tabOk rfl rfl rfl rfl rfl rfl rfl rfl) ?_
  refine Run.a (Val.fieldAddr tabOk rfl rfl rfl rfl rfl rfl rfl rfl) ?_
  refine Run.a (Val.load (v := .int .i64 wd) tabOk rfl rfl rfl m0 rfl) ?_
  refine Run.a (Val.eq (Val.of rfl) (show _ = Value.bool true from congrArg Value.bool (decide_eq_true (by omega)))) ?_
  refine Run.a (Val.of rfl) ?_
  refine Run.a (Val.of rfl) ?_
  refine Run.a (Val.fieldAddr tabOk rfl rfl rfl rfl rfl rfl rfl rfl) ?_
  refine Run.a (Val.fieldAddr tabOk rfl rfl rfl rfl rfl rfl rfl rfl) ?_
  refine Run.a (Val.load (v := .int .i64 wd) tabOk rfl rfl rfl m0 rfl) ?_
  refine Run.a (Val.eq (Val.of rfl) (show _ = Value.bool true from congrArg Value.bool (decide_eq_true (by omega)))) ?_
  refine Run.a (Val.of rfl) ?_
  refine Run.a (Val.of rfl) ?_
  refine Run.a (Val.fieldAddr tabOk rfl rfl rfl rfl rfl rfl rfl rfl) ?_
  refine Run.a (Val.load (v := .int .i64 made) tabOk rfl rfl rfl m0 rfl) ?_
  refine Run.a (Val.eq (Val.of rfl) (show _ = Value.bool true from congrArg Value.bool (decide_eq_true (by omega)))) ?_
  refine Run.a (Val.of rfl) ?_
  refine Run.a (Val.of rfl) ?_
  refine Run.a (Val.fieldAddr tabOk rfl rfl rfl rfl rfl rfl rfl rfl) ?_
  refine Run.a (Val.load (v := .int .i64 made) tabOk rfl rfl rfl m0 rfl) ?_
  refine Run.a (Val.eq (Val.of rfl) (show _ = Value.bool true from congrArg Value.bool (decide_eq_true (by omega)))) ?_
  refine Run.a (Val.of rfl) ?_
  refine Run.a (Val.of rfl) ?_
  refine Run.nil (RQ.next ?_)
  refine RC.ret ?_; (repeat first | refine RQ.thenRet ?_ | refine RQ.blockRet ?_); exact RQ.ret1 rfl (Res.tmp rfl) fun w' hm => ⟨rfl, hm.fr⟩

end Go.Proofs.YtkkfaffehbjdgaaGreatDoor
end
