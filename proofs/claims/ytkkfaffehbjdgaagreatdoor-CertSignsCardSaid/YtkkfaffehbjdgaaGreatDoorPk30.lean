/- Lemmas. -/
import Derived.Test.YtkkfaffehbjdgaaGreatDoorPk29
set_option linter.unusedSimpArgs false
set_option linter.unusedVariables false
section
/- quorum: right, Check, Count, and the reference's. -/
namespace Go.Sha
open Go.Vc (insI)
/-- Whether a signature is right. -/
def rightS (l : List (List Nat)) (m : List Nat) (s : Sg) : Bool := if 0 ≤ s.key ∧ s.key < l.length then checkT (l.getD s.key.toNat []) m s.z s.op s.sh s.pa else false
theorem rightS_bad {l : List (List Nat)} {m : List Nat} {s : Sg} (h : ¬ (0 ≤ s.key ∧ s.key < l.length)) : rightS l m s = false := by unfold rightS; rw [if_neg h]
theorem rightS_good {l : List (List Nat)} {m : List Nat} {s : Sg} {k : Nat} {y : List Nat} (h : s.key = k) (hy : l[k]? = some y) : rightS l m s = checkT y m s.z s.op s.sh s.pa := by
  have hk := (List.getElem?_eq_some_iff.1 hy).1
  unfold rightS
  rw [if_pos (by omega), h, Int.toNat_natCast, List.getD_eq_getElem?_getD, hy]
  rfl
theorem rightS_in {l : List (List Nat)} {m : List Nat} {s : Sg} (h : rightS l m s = true) : 0 ≤ s.key ∧ s.key < l.length := by
  unfold rightS at h
  split at h
  · assumption
  · cases h
/-- Signatures in order, all right. -/
def goes (l : List (List Nat)) (m : List Nat) : Int → List Sg → Bool
  | _, [] => true
  | last, s :: r => decide (last < s.key) && (rightS l m s && goes l m s.key r)
theorem goes_step {l : List (List Nat)} {m : List Nat} {last : Int} {ss : List Sg} {i : Nat} {s : Sg} (h : ss[i]? = some s) : goes l m last (ss.drop i) = (decide (last < s.key) && (rightS l m s && goes l m s.key (ss.drop (i + 1)))) := by
  have hi := (List.getElem?_eq_some_iff.1 h).1
  have h2 := (List.getElem?_eq_some_iff.1 h).2
  rw [List.drop_eq_getElem_cons hi, h2]
  rfl
theorem goes_few {l : List (List Nat)} {m : List Nat} : ∀ (ss : List Sg) (last : Int), -1 ≤ last → goes l m last ss = true → (ss.length : Int) ≤ l.length - (last + 1) ∨ ss = []
  | [], _, _, _ => .inr rfl
  | s :: r, last, hl, h => by
    simp only [goes, Bool.and_eq_true, decide_eq_true_eq] at h
    obtain ⟨h1, h2, h3⟩ := h
    have h4 := rightS_in h2
    left
    rcases goes_few r s.key (by omega) h3 with h5 | rfl
    · rw [List.length_cons]; omega
    · simp only [List.length_cons, List.length_nil]; omega
/-- Whether they are enough. -/
def chkQ (ln wd nd : Int) (l : List (List Nat)) (m : List Nat) (ss : List Sg) : Bool := mayP ln wd nd l && (decide (nd ≤ ss.length) && goes l m (-1) ss)
theorem chkQ_may {ln wd nd : Int} {l : List (List Nat)} {m : List Nat} {ss : List Sg} (h : mayP ln wd nd l = false) : chkQ ln wd nd l m ss = false := by unfold chkQ; rw [h]; rfl
theorem chkQ_few {ln wd nd : Int} {l : List (List Nat)} {m : List Nat} {ss : List Sg} (h : ¬ nd ≤ ss.length) : chkQ ln wd nd l m ss = false := by unfold chkQ; rw [decide_eq_false h]; simp
theorem chkQ_goes {ln wd nd : Int} {l : List (List Nat)} {m : List Nat} {ss : List Sg} (h1 : mayP ln wd nd l = true) (h2 : nd ≤ ss.length) : chkQ ln wd nd l m ss = goes l m (-1) ss := by unfold chkQ; rw [h1, decide_eq_true h2]; rfl
theorem chkQ_many {ln wd nd : Int} {l : List (List Nat)} {m : List Nat} {ss : List Sg} (h : l.length < ss.length) : chkQ ln wd nd l m ss = false := by
  cases hg : goes l m (-1) ss
  · unfold chkQ; rw [hg]; simp
  · rcases goes_few ss (-1) (Int.le_refl _) hg with h2 | rfl
    · omega
    · simp at h
/-- How many, by the reference. -/
def has (l : List (List Nat)) (m : List Nat) (ss : List Sg) (k : Nat) : Bool := ss.any fun s => decide (s.key = (k : Int)) && rightS l m s
theorem Sg.sig (s : Sg) : ∀ j u, (sigC s.z s.op s.sh s.pa)[j]? = some u → s.c.toArray[1 + j]? = some u := by
  intro j u hj
  rw [List.getElem?_toArray, Nat.add_comm]
  exact hj
def sgCz : List Go.Value := .int .i64 0 :: sgz
theorem sgCz_len : sgCz.length = 282 := by unfold sgCz; rw [List.length_cons, sgz_len]
end Go.Sha
namespace Go.Vc
open Go Go.Sha
theorem sgAt {w : World} {ad : Addr} {ss : List Sg} (hr : ∀ j u, (rowSg ss)[j]? = some u → w.cell? (ad.add j) = some u) {i : Nat} {s : Sg} (h : ss[i]? = some s) : ∀ j u, s.c[j]? = some u → w.cell? ((ad.add (i * 282)).add j) = some u := fun j u hj => by
  rw [add_add]
  exact hr _ u (rowSg_at h j u hj)
end Go.Vc
namespace Go.Proofs.YtkkfaffehbjdgaaGreatDoor
open Go Go.Vc Go.Sha

set_option maxRecDepth 10000 in set_option maxHeartbeats 4000000 in
theorem q_right_calls (ln wd nd : Int) (l : List (List Nat)) (hH : HL l) (m : List Nat) (hm8 : m.length = 8) (hmlt : ∀ x ∈ m, x < 256) (s : Sg) (v : Value) (w : World) (hs : SrcW w 8 v l.length (u8s l.flatten)) (hK : Laid w) :
    Gives Tryz.prog 59 [.agg (prm ln wd nd v).toArray, .agg (u8s m).toArray, .agg s.c.toArray] (.bool (rightS l m s)) w := by
  refine enter Tryz.func59 rfl (Mem.nil w []) rfl ?_
  obtain ⟨va, vc, rfl, hvc⟩ := hs.shape
  (repeat refine RC.seq ?_); refine RC.region ?_
  refine Run.nw (New.boxA rfl rfl) ?_
  intro b3
  refine Run.nw (New.boxA rfl rfl) ?_
  intro b4
  refine Run.nw (New.boxA rfl rfl) ?_
  intro b5
  refine Run.a (Val.of rfl) ?_
  refine Run.nil (RQ.next ?_)
  by_cases hA : ¬ 0 ≤ s.key
  · rw [rightS_bad (by omega)]
    (repeat refine RC.seq ?_); refine RC.drawS mixed (N := 24) rfl ?_
    refine DR.t 0 rfl (Val.fieldAddr tabOk rfl rfl rfl rfl rfl rfl rfl rfl) ?_
    refine DR.t 1 rfl (Val.load (v := .int .i64 s.key) tabOk rfl rfl rfl m0 rfl) ?_
    refine DR.t 2 rfl (Val.eq (Val.of rfl) (show _ = Value.bool false from congrArg Value.bool (decide_eq_false (by omega)))) ?_
    refine DR.t 3 rfl (Val.of rfl) ?_
    refine DR.p 4 rfl ?_
    refine DR.p 5 rfl ?_
    refine DR.p 6 rfl ?_
    refine DR.p 7 rfl ?_
    refine DR.p 8 rfl ?_
    refine DR.p 9 rfl ?_
    refine DR.t 10 rfl (Val.of rfl) ?_
    refine DR.t 11 rfl (Val.of rfl) ?_
    refine DR.p 12 rfl ?_
    refine DR.p 13 rfl ?_
    refine DR.p 14 rfl ?_
    refine DR.p 15 rfl ?_
    refine DR.p 16 rfl ?_
    refine DR.p 17 rfl ?_
    refine DR.p 18 rfl ?_
    refine DR.p 19 rfl ?_
    refine DR.p 20 rfl ?_
    refine DR.cp 21 rfl ?_
    refine DR.t 22 rfl (Val.of rfl) ?_
    refine DR.t 23 rfl (Val.of rfl) ?_
    refine DR.done (by kernel_rfl) (RQ.next ?_)
    refine RC.ret ?_; (repeat first | refine RQ.thenRet ?_ | refine RQ.blockRet ?_); exact RQ.ret1 rfl (Res.tmp rfl) fun w' hm => ⟨rfl, hm.fr⟩
  by_cases hB : ¬ s.key < l.length
  · rw [rightS_bad (by omega)]
    (repeat refine RC.seq ?_); refine RC.drawS mixed (N := 24) rfl ?_
    refine DR.t 0 rfl (Val.fieldAddr tabOk rfl rfl rfl rfl rfl rfl rfl rfl) ?_
    refine DR.t 1 rfl (Val.load (v := .int .i64 s.key) tabOk rfl rfl rfl m0 rfl) ?_
    refine DR.t 2 rfl (Val.eq (Val.of rfl) (show _ = Value.bool true from congrArg Value.bool (decide_eq_true (by omega)))) ?_
    refine DR.t 3 rfl (Val.of rfl) ?_
    refine DR.t 4 rfl (Val.fieldAddr tabOk rfl rfl rfl rfl rfl rfl rfl rfl) ?_
    refine DR.t 5 rfl (Val.load (v := .int .i64 s.key) tabOk rfl rfl rfl m0 rfl) ?_
    refine DR.t 6 rfl (Val.fieldAddr tabOk rfl rfl rfl rfl rfl rfl rfl rfl) ?_
    refine DR.t 7 rfl (Val.load (v := .slice va l.length vc) tabOk rfl rfl rfl m2 rfl) ?_
    refine DR.t 8 rfl (Val.len (len := l.length) tabOk rfl rfl rfl rfl) ?_
    refine DR.t 9 rfl (Val.eq (Val.of rfl) (show _ = Value.bool false from congrArg Value.bool (decide_eq_false (by omega)))) ?_
    refine DR.t 10 rfl (Val.of rfl) ?_
    refine DR.t 11 rfl (Val.of rfl) ?_
    refine DR.p 12 rfl ?_
    refine DR.p 13 rfl ?_
    refine DR.p 14 rfl ?_
    refine DR.p 15 rfl ?_
    refine DR.p 16 rfl ?_
    refine DR.p 17 rfl ?_
    refine DR.p 18 rfl ?_
    refine DR.p 19 rfl ?_
    refine DR.p 20 rfl ?_
    refine DR.cp 21 rfl ?_
    refine DR.t 22 rfl (Val.of rfl) ?_
    refine DR.t 23 rfl (Val.of rfl) ?_
    refine DR.done (by kernel_rfl) (RQ.next ?_)
    refine RC.ret ?_; (repeat first | refine RQ.thenRet ?_ | refine RQ.blockRet ?_); exact RQ.ret1 rfl (Res.tmp rfl) fun w' hm => ⟨rfl, hm.fr⟩
  obtain ⟨k, hk⟩ := Int.eq_ofNat_of_zero_le (show 0 ≤ s.key by omega)
  have hkl : k < l.length := by omega
  obtain ⟨y, hy⟩ : ∃ y, l[k]? = some y := ⟨_, List.getElem?_eq_getElem hkl⟩
  have hy8 := hH y (List.mem_of_getElem? hy)
  obtain ⟨ad, c, hv, hc, hcl, hr⟩ := hs.pos (by omega)
  cases hv
  have hload := hashAt hH hr hy
  rw [rightS_good hk hy]
  (repeat refine RC.seq ?_); refine RC.drawS mixed (N := 24) rfl ?_
  refine DR.t 0 rfl (Val.fieldAddr tabOk rfl rfl rfl rfl rfl rfl rfl rfl) ?_
  refine DR.t 1 rfl (Val.load (v := .int .i64 s.key) tabOk rfl rfl rfl m0 rfl) ?_
  refine DR.t 2 rfl (Val.eq (Val.of rfl) (show _ = Value.bool true from congrArg Value.bool (decide_eq_true (by omega)))) ?_
  refine DR.t 3 rfl (Val.of rfl) ?_
  refine DR.t 4 rfl (Val.fieldAddr tabOk rfl rfl rfl rfl rfl rfl rfl rfl) ?_
  refine DR.t 5 rfl (Val.load (v := .int .i64 s.key) tabOk rfl rfl rfl m0 rfl) ?_
  refine DR.t 6 rfl (Val.fieldAddr tabOk rfl rfl rfl rfl rfl rfl rfl rfl) ?_
  refine DR.t 7 rfl (Val.load (v := .slice (some ad) l.length vc) tabOk rfl rfl rfl m2 rfl) ?_
  refine DR.t 8 rfl (Val.len (len := l.length) tabOk rfl rfl rfl rfl) ?_
  refine DR.t 9 rfl (Val.eq (Val.of rfl) (show _ = Value.bool true from congrArg Value.bool (decide_eq_true (by omega)))) ?_
  refine DR.t 10 rfl (Val.of rfl) ?_
  refine DR.t 11 rfl (Val.of rfl) ?_
  refine DR.t 12 rfl (Val.fieldAddr tabOk rfl rfl rfl rfl rfl rfl rfl rfl) ?_
  refine DR.t 13 rfl (Val.load (v := .slice (some ad) l.length vc) tabOk rfl rfl rfl m2 rfl) ?_
  refine DR.t 14 rfl (Val.fieldAddr tabOk rfl rfl rfl rfl rfl rfl rfl rfl) ?_
  refine DR.t 15 rfl (Val.load (v := .int .i64 s.key) tabOk rfl rfl rfl m0 rfl) ?_
  refine DR.t 16 rfl (Val.ixS tabOk k (ad' := ad.add (k * 8)) rfl rfl rfl rfl rfl rfl hk hkl rfl) ?_
  refine DR.t 17 rfl (Val.loadOld tabOk (cs := u8s y) rfl rfl rfl rfl (by simp) (by rw [u8s_len, hy8.1]; rfl) hload) ?_
  refine DR.t 18 rfl (Val.loadU tabOk rfl rfl rfl rfl m1 hm8) ?_
  refine DR.t 19 rfl (Val.fieldAddr tabOk rfl rfl rfl rfl rfl rfl rfl rfl) ?_
  refine DR.t 20 rfl (Val.loadR (cs := sigC s.z s.op s.sh s.pa) tabOk rfl rfl rfl rfl (by rw [sigC_len s.h1 s.h2 s.h3]; rfl) (Rd.row m0 s.sig)) ?_
  refine DR.c 21 ?_
  refine DOp.op1 rfl (OpTo.callV Tryz.func90 rfl rfl rfl rfl rfl rfl (fun w' hm => KCheck_calls y m s.z s.op s.sh s.pa hy8.1 hm8 hmlt s.h1 s.h1' s.h2 s.h2' s.h3 s.h3' w' (hK.fr hm.fr (by simp)))) (fun _ => ?_)
  refine DR.t 22 rfl (Val.of rfl) ?_
  refine DR.t 23 rfl (Val.of rfl) ?_
  refine DR.done (by kernel_rfl) (RQ.next ?_)
  refine RC.ret ?_; (repeat first | refine RQ.thenRet ?_ | refine RQ.blockRet ?_); exact RQ.ret1 rfl (Res.tmp rfl) fun w' hm => ⟨rfl, hm.fr⟩

set_option maxRecDepth 10000 in set_option maxHeartbeats 4000000 in
theorem qref_right_calls (ln wd nd : Int) (l : List (List Nat)) (hH : HL l) (m : List Nat) (hm8 : m.length = 8) (hmlt : ∀ x ∈ m, x < 256) (s : Sg) (v : Value) (w : World) (hs : SrcW w 8 v l.length (u8s l.flatten)) :
    Gives Tryz.prog 63 [.agg (prm ln wd nd v).toArray, .agg (u8s m).toArray, .agg s.c.toArray] (.bool (rightS l m s)) w := by
  refine enter Tryz.func63 rfl (Mem.nil w []) rfl ?_
  obtain ⟨va, vc, rfl, hvc⟩ := hs.shape
  (repeat refine RC.seq ?_); refine RC.region ?_
  refine Run.nw (New.boxA rfl rfl) ?_
  intro b3
  refine Run.nw (New.boxA rfl rfl) ?_
  intro b4
  refine Run.nw (New.boxA rfl rfl) ?_
  intro b5
  refine Run.a (Val.of rfl) ?_
  refine Run.nil (RQ.next ?_)
  by_cases hA : ¬ 0 ≤ s.key
  · rw [rightS_bad (by omega)]
    (repeat refine RC.seq ?_); refine RC.drawS mixed (N := 24) rfl ?_
    refine DR.t 0 rfl (Val.fieldAddr tabOk rfl rfl rfl rfl rfl rfl rfl rfl) ?_
    refine DR.t 1 rfl (Val.load (v := .int .i64 s.key) tabOk rfl rfl rfl m0 rfl) ?_
    refine DR.t 2 rfl (Val.eq (Val.of rfl) (show _ = Value.bool false from congrArg Value.bool (decide_eq_false (by omega)))) ?_
    refine DR.t 3 rfl (Val.of rfl) ?_
    refine DR.p 4 rfl ?_
    refine DR.p 5 rfl ?_
    refine DR.p 6 rfl ?_
    refine DR.p 7 rfl ?_
    refine DR.p 8 rfl ?_
    refine DR.p 9 rfl ?_
    refine DR.t 10 rfl (Val.of rfl) ?_
    refine DR.t 11 rfl (Val.of rfl) ?_
    refine DR.p 12 rfl ?_
    refine DR.p 13 rfl ?_
    refine DR.p 14 rfl ?_
    refine DR.p 15 rfl ?_
    refine DR.p 16 rfl ?_
    refine DR.p 17 rfl ?_
    refine DR.p 18 rfl ?_
    refine DR.p 19 rfl ?_
    refine DR.p 20 rfl ?_
    refine DR.cp 21 rfl ?_
    refine DR.t 22 rfl (Val.of rfl) ?_
    refine DR.t 23 rfl (Val.of rfl) ?_
    refine DR.done (by kernel_rfl) (RQ.next ?_)
    refine RC.ret ?_; (repeat first | refine RQ.thenRet ?_ | refine RQ.blockRet ?_); exact RQ.ret1 rfl (Res.tmp rfl) fun w' hm => ⟨rfl, hm.fr⟩
  by_cases hB : ¬ s.key < l.length
  · rw [rightS_bad (by omega)]
    (repeat refine RC.seq ?_); refine RC.drawS mixed (N := 24) rfl ?_
    refine DR.t 0 rfl (Val.fieldAddr tabOk rfl rfl rfl rfl rfl rfl rfl rfl) ?_
    refine DR.t 1 rfl (Val.load (v := .int .i64 s.key) tabOk rfl rfl rfl m0 rfl) ?_
    refine DR.t 2 rfl (Val.eq (Val.of rfl) (show _ = Value.bool true from congrArg Value.bool (decide_eq_true (by omega)))) ?_
    refine DR.t 3 rfl (Val.of rfl) ?_
    refine DR.t 4 rfl (Val.fieldAddr tabOk rfl rfl rfl rfl rfl rfl rfl rfl) ?_
    refine DR.t 5 rfl (Val.load (v := .int .i64 s.key) tabOk rfl rfl rfl m0 rfl) ?_
    refine DR.t 6 rfl (Val.fieldAddr tabOk rfl rfl rfl rfl rfl rfl rfl rfl) ?_
    refine DR.t 7 rfl (Val.load (v := .slice va l.length vc) tabOk rfl rfl rfl m2 rfl) ?_
    refine DR.t 8 rfl (Val.len (len := l.length) tabOk rfl rfl rfl rfl) ?_
    refine DR.t 9 rfl (Val.eq (Val.of rfl) (show _ = Value.bool false from congrArg Value.bool (decide_eq_false (by omega)))) ?_
    refine DR.t 10 rfl (Val.of rfl) ?_
    refine DR.t 11 rfl (Val.of rfl) ?_
    refine DR.p 12 rfl ?_
    refine DR.p 13 rfl ?_
    refine DR.p 14 rfl ?_
    refine DR.p 15 rfl ?_
    refine DR.p 16 rfl ?_
    refine DR.p 17 rfl ?_
    refine DR.p 18 rfl ?_
    refine DR.p 19 rfl ?_
    refine DR.p 20 rfl ?_
    refine DR.cp 21 rfl ?_
    refine DR.t 22 rfl (Val.of rfl) ?_
    refine DR.t 23 rfl (Val.of rfl) ?_
    refine DR.done (by kernel_rfl) (RQ.next ?_)
    refine RC.ret ?_; (repeat first | refine RQ.thenRet ?_ | refine RQ.blockRet ?_); exact RQ.ret1 rfl (Res.tmp rfl) fun w' hm => ⟨rfl, hm.fr⟩
  obtain ⟨k, hk⟩ := Int.eq_ofNat_of_zero_le (show 0 ≤ s.key by omega)
  have hkl : k < l.length := by omega
  obtain ⟨y, hy⟩ : ∃ y, l[k]? = some y := ⟨_, List.getElem?_eq_getElem hkl⟩
  have hy8 := hH y (List.mem_of_getElem? hy)
  obtain ⟨ad, c, hv, hc, hcl, hr⟩ := hs.pos (by omega)
  cases hv
  have hload := hashAt hH hr hy
  rw [rightS_good hk hy]
  (repeat refine RC.seq ?_); refine RC.drawS mixed (N := 24) rfl ?_
  refine DR.t 0 rfl (Val.fieldAddr tabOk rfl rfl rfl rfl rfl rfl rfl rfl) ?_
  refine DR.t 1 rfl (Val.load (v := .int .i64 s.key) tabOk rfl rfl rfl m0 rfl) ?_
  refine DR.t 2 rfl (Val.eq (Val.of rfl) (show _ = Value.bool true from congrArg Value.bool (decide_eq_true (by omega)))) ?_
  refine DR.t 3 rfl (Val.of rfl) ?_
  refine DR.t 4 rfl (Val.fieldAddr tabOk rfl rfl rfl rfl rfl rfl rfl rfl) ?_
  refine DR.t 5 rfl (Val.load (v := .int .i64 s.key) tabOk rfl rfl rfl m0 rfl) ?_
  refine DR.t 6 rfl (Val.fieldAddr tabOk rfl rfl rfl rfl rfl rfl rfl rfl) ?_
  refine DR.t 7 rfl (Val.load (v := .slice (some ad) l.length vc) tabOk rfl rfl rfl m2 rfl) ?_
  refine DR.t 8 rfl (Val.len (len := l.length) tabOk rfl rfl rfl rfl) ?_
  refine DR.t 9 rfl (Val.eq (Val.of rfl) (show _ = Value.bool true from congrArg Value.bool (decide_eq_true (by omega)))) ?_
  refine DR.t 10 rfl (Val.of rfl) ?_
  refine DR.t 11 rfl (Val.of rfl) ?_
  refine DR.t 12 rfl (Val.fieldAddr tabOk rfl rfl rfl rfl rfl rfl rfl rfl) ?_
  refine DR.t 13 rfl (Val.load (v := .slice (some ad) l.length vc) tabOk rfl rfl rfl m2 rfl) ?_
  refine DR.t 14 rfl (Val.fieldAddr tabOk rfl rfl rfl rfl rfl rfl rfl rfl) ?_
  refine DR.t 15 rfl (Val.load (v := .int .i64 s.key) tabOk rfl rfl rfl m0 rfl) ?_
  refine DR.t 16 rfl (Val.ixS tabOk k (ad' := ad.add (k * 8)) rfl rfl rfl rfl rfl rfl hk hkl rfl) ?_
  refine DR.t 17 rfl (Val.loadOld tabOk (cs := u8s y) rfl rfl rfl rfl (by simp) (by rw [u8s_len, hy8.1]; rfl) hload) ?_
  refine DR.t 18 rfl (Val.loadU tabOk rfl rfl rfl rfl m1 hm8) ?_
  refine DR.t 19 rfl (Val.fieldAddr tabOk rfl rfl rfl rfl rfl rfl rfl rfl) ?_
  refine DR.t 20 rfl (Val.loadR (cs := sigC s.z s.op s.sh s.pa) tabOk rfl rfl rfl rfl (by rw [sigC_len s.h1 s.h2 s.h3]; rfl) (Rd.row m0 s.sig)) ?_
  refine DR.c 21 ?_
  refine DOp.op1 rfl (OpTo.callV Tryz.func92 rfl rfl rfl rfl rfl rfl (fun w' hm => CheckTree_calls y m s.z s.op s.sh s.pa hy8.1 hm8 hmlt s.h1 s.h1' s.h2 s.h2' s.h3 s.h3' w')) (fun _ => ?_)
  refine DR.t 22 rfl (Val.of rfl) ?_
  refine DR.t 23 rfl (Val.of rfl) ?_
  refine DR.done (by kernel_rfl) (RQ.next ?_)
  refine RC.ret ?_; (repeat first | refine RQ.thenRet ?_ | refine RQ.blockRet ?_); exact RQ.ret1 rfl (Res.tmp rfl) fun w' hm => ⟨rfl, hm.fr⟩

end Go.Proofs.YtkkfaffehbjdgaaGreatDoor

/- quorum: Check, Count, and the reference's. -/
namespace Go.Proofs.YtkkfaffehbjdgaaGreatDoor
open Go Go.Vc Go.Sha

set_option maxRecDepth 10000 in set_option maxHeartbeats 4000000 in
theorem qCheck_calls (ln wd nd : Int) (l : List (List Nat)) (hH : HL l) (hll : l.length ≤ 9223372036854775807) (m : List Nat) (hm8 : m.length = 8) (hmlt : ∀ x ∈ m, x < 256) (ss : List Sg) (hsl : ss.length ≤ 9223372036854775807) (v vs : Value) (w : World)
    (hs : SrcW w 8 v l.length (u8s l.flatten)) (hv : SrcW w 282 vs ss.length (rowSg ss)) (hK : Laid w) :
    Gives Tryz.prog 32 [.agg (prm ln wd nd v).toArray, .agg (u8s m).toArray, vs] (.bool (chkQ ln wd nd l m ss)) w := by
  refine enter Tryz.func32 rfl (Mem.nil w []) rfl ?_
  obtain ⟨sa, sc, rfl, hsc⟩ := hv.shape
  have hM := fun w' hs' => May_calls ln wd nd l hH hll v w' hs'
  have hRt := fun s w' hs' hK' => q_right_calls ln wd nd l hH m hm8 hmlt s v w' hs' hK'
  (repeat refine RC.seq ?_); refine RC.region ?_
  refine Run.nw (New.boxA rfl rfl) ?_
  intro b3
  refine Run.nw (New.boxA rfl rfl) ?_
  intro b4
  refine Run.a (Val.of rfl) ?_
  refine Run.nil (RQ.next ?_)
  cases hmay : mayP ln wd nd l
  · rw [hmay] at hM
    rw [chkQ_may hmay]
    (repeat refine RC.seq ?_); refine RC.region ?_
    refine Run.a (Val.loadAll tabOk rfl rfl rfl rfl m1 rfl) ?_
    refine Run.callV Tryz.func37 rfl rfl rfl rfl rfl rfl rfl (fun w' hm => hM w' (hs.mem hm)) ?_
    refine Run.a (Val.of rfl) ?_
    refine Run.a (Val.of rfl) ?_
    refine Run.sk ?_
    refine Run.sk ?_
    refine Run.sk ?_
    refine Run.sk ?_
    refine Run.sk ?_
    refine Run.a (Val.of rfl) ?_
    refine Run.nil (RQ.next ?_)
    (repeat refine RC.seq ?_); refine RC.condT rfl rfl ?_
    (repeat refine RC.seq ?_); refine RC.region ?_
    refine Run.a (Val.of rfl) ?_
    refine Run.nil (RQ.next ?_)
    refine RC.ret ?_; (repeat first | refine RQ.thenRet ?_ | refine RQ.blockRet ?_); exact RQ.ret1 rfl (Res.tmp rfl) fun w' hm => ⟨rfl, hm.fr⟩
  rw [hmay] at hM
  by_cases hfew : (ss.length : Int) < nd
  · rw [chkQ_few (by omega)]
    (repeat refine RC.seq ?_); refine RC.region ?_
    refine Run.a (Val.loadAll tabOk rfl rfl rfl rfl m1 rfl) ?_
    refine Run.callV Tryz.func37 rfl rfl rfl rfl rfl rfl rfl (fun w' hm => hM w' (hs.mem hm)) ?_
    refine Run.a (Val.of rfl) ?_
    refine Run.a (Val.of rfl) ?_
    refine Run.a (Val.of rfl) ?_
    refine Run.a (Val.len (len := ss.length) tabOk rfl rfl rfl rfl) ?_
    refine Run.a (Val.fieldAddr tabOk rfl rfl rfl rfl rfl rfl rfl rfl) ?_
    refine Run.a (Val.load (v := .int .i64 nd) tabOk rfl rfl rfl m1 rfl) ?_
    refine Run.a (Val.eq (Val.of rfl) (show _ = Value.bool true from congrArg Value.bool (decide_eq_true hfew))) ?_
    refine Run.a (Val.of rfl) ?_
    refine Run.nil (RQ.next ?_)
    (repeat refine RC.seq ?_); refine RC.condT rfl rfl ?_
    (repeat refine RC.seq ?_); refine RC.region ?_
    refine Run.a (Val.of rfl) ?_
    refine Run.nil (RQ.next ?_)
    refine RC.ret ?_; (repeat first | refine RQ.thenRet ?_ | refine RQ.blockRet ?_); exact RQ.ret1 rfl (Res.tmp rfl) fun w' hm => ⟨rfl, hm.fr⟩
  rw [chkQ_goes hmay (by omega)]
  (repeat refine RC.seq ?_); refine RC.region ?_
  refine Run.a (Val.loadAll tabOk rfl rfl rfl rfl m1 rfl) ?_
  refine Run.callV Tryz.func37 rfl rfl rfl rfl rfl rfl rfl (fun w' hm => hM w' (hs.mem hm)) ?_
  refine Run.a (Val.of rfl) ?_
  refine Run.a (Val.of rfl) ?_
  refine Run.a (Val.of rfl) ?_
  refine Run.a (Val.len (len := ss.length) tabOk rfl rfl rfl rfl) ?_
  refine Run.a (Val.fieldAddr tabOk rfl rfl rfl rfl rfl rfl rfl rfl) ?_
  refine Run.a (Val.load (v := .int .i64 nd) tabOk rfl rfl rfl m1 rfl) ?_
  refine Run.a (Val.eq (Val.of rfl) (show _ = Value.bool false from congrArg Value.bool (decide_eq_false hfew))) ?_
  refine Run.a (Val.of rfl) ?_
  refine Run.nil (RQ.next ?_)
  (repeat refine RC.seq ?_); refine RC.condF rfl rfl (RC.skip (RQ.next ?_))
  (repeat refine RC.seq ?_); refine RC.region ?_
  refine Run.a (Val.of rfl) ?_
  refine Run.nil (RQ.next ?_)
  (repeat refine RC.seq ?_); refine RC.region ?_
  refine Run.a (Val.of rfl) ?_
  refine Run.a (Val.len (len := ss.length) tabOk rfl rfl rfl rfl) ?_
  refine Run.a (Val.of rfl) ?_
  refine Run.nil (RQ.next ?_)
  (repeat refine RC.seq ?_); refine RC.block ?_
  refine RC.up ss.length (D := Int) (fun i last => goes l m (-1) ss = goes l m last (ss.drop i))
    (fun i last => [(22, .int .i64 i), (21, .int .i64 ss.length), (20, .slice sa ss.length sc), (7, .int .i64 last), (4, .pointer (some ⟨b4, 0, none⟩)), (3, .pointer (some ⟨b3, 0, none⟩))])
    (fun _ _ => [(b4, .cells (u8s m).toArray 32 (0, 0)), (b3, .cells (prm ln wd nd v).toArray 43 (0, 0))]) 0 (-1) (Nat.zero_le _) rfl ⟨rfl, rfl, rfl, rfl, rfl, rfl, trivial⟩ (List.Sublist.refl _) ?_
  intro i last hi hgo
  (repeat refine RC.seq ?_); refine RC.region ?_
  refine Run.a (Val.of rfl) ?_
  refine Run.nil (RQ.next ?_)
  (repeat refine RC.seq ?_); refine RC.wh rfl (fun h => RQ.next ?_) (fun h => ?_)
  · have hi' : i < ss.length := by have := of_decide_eq_true h; omega
    clear h
    obtain ⟨s, hx⟩ : ∃ s, ss[i]? = some s := ⟨_, List.getElem?_eq_getElem hi'⟩
    obtain ⟨ad, c, hv', hc, hcl, hr⟩ := hv.pos (by omega)
    cases hv'
    have hload := sgAt hr hx
    have hst := goes_step (l := l) (m := m) (last := last) hx
    have hl1 := s.len
    have hl2 := s.one
    have hk0 : s.c.toArray[0]? = some (.int .i64 s.key) := rfl
    (repeat refine RC.seq ?_); refine RC.block ?_
    (repeat refine RC.seq ?_); refine RC.region ?_
    refine Run.a (Val.ixS tabOk i (ad' := ad.add (i * 282)) rfl rfl rfl rfl rfl rfl rfl hi' rfl) ?_
    refine Run.a (Val.loadOld tabOk (cs := s.c) rfl rfl rfl rfl (by simp) (by rw [hl1]; rfl) hload) ?_
    refine Run.nw (New.allocTo tabOk (cs := sgCz.toArray) rfl rfl (by kernel_rfl)) ?_
    intro b9
    refine Run.op1 (OpTo.setV tabOk [] sgCz s.c [] rfl rfl rfl rfl rfl (List.Perm.refl _) rfl (by simp) rfl (by rw [sgCz_len, hl1]) (by rw [hl1]; rfl) hl2) (fun _ => ?_)
    rw [List.nil_append, List.append_nil]
    refine Run.nil (RQ.next ?_)
    by_cases hle : s.key ≤ last
    · rw [hgo, hst, decide_eq_false (by omega)]
      (repeat refine RC.seq ?_); refine RC.region ?_
      refine Run.a (Val.fieldAddr tabOk rfl rfl rfl rfl rfl rfl rfl rfl) ?_
      refine Run.a (Val.load (v := .int .i64 s.key) tabOk rfl rfl rfl m0 hk0) ?_
      refine Run.a (Val.of rfl) ?_
      refine Run.a (Val.eq (Val.of rfl) (show _ = Value.bool true from congrArg Value.bool (decide_eq_true hle))) ?_
      refine Run.a (Val.of rfl) ?_
      refine Run.sk ?_
      refine Run.sk ?_
      refine Run.sk ?_
      refine Run.sk ?_
      refine Run.sk ?_
      refine Run.a (Val.of rfl) ?_
      refine Run.nil (RQ.next ?_)
      (repeat refine RC.seq ?_); refine RC.condT rfl rfl ?_
      (repeat refine RC.seq ?_); refine RC.region ?_
      refine Run.a (Val.of rfl) ?_
      refine Run.nil (RQ.next ?_)
      refine RC.ret ?_; (repeat first | refine RQ.thenRet ?_ | refine RQ.blockRet ?_); exact RQ.ret1 rfl (Res.tmp rfl) fun w' hm => ⟨rfl, hm.fr⟩
    cases hr : rightS l m s
    · have hRt' := fun w' hs' hK' => hRt s w' hs' hK'
      rw [hr] at hRt'
      rw [hgo, hst, hr, Bool.false_and, Bool.and_false]
      (repeat refine RC.seq ?_); refine RC.region ?_
      refine Run.a (Val.fieldAddr tabOk rfl rfl rfl rfl rfl rfl rfl rfl) ?_
      refine Run.a (Val.load (v := .int .i64 s.key) tabOk rfl rfl rfl m0 hk0) ?_
      refine Run.a (Val.of rfl) ?_
      refine Run.a (Val.eq (Val.of rfl) (show _ = Value.bool false from congrArg Value.bool (decide_eq_false hle))) ?_
      refine Run.a (Val.of rfl) ?_
      refine Run.a (Val.loadAll tabOk rfl rfl rfl rfl m2 rfl) ?_
      refine Run.a (Val.loadU tabOk rfl rfl rfl rfl m1 hm8) ?_
      refine Run.a (Val.loadAll tabOk rfl rfl rfl rfl m0 (by rw [List.size_toArray, hl1]; rfl)) ?_
      refine Run.opG (Wanted.guard rfl rfl rfl rfl) (OpTo.callV Tryz.func59 rfl rfl rfl rfl rfl rfl (fun w' hm => hRt' w' (hs.mem hm) (hK.fr hm.fr (by simp)))) (fun _ => ?_)
      refine Run.a (Val.of rfl) ?_
      refine Run.a (Val.of rfl) ?_
      refine Run.nil (RQ.next ?_)
      (repeat refine RC.seq ?_); refine RC.condT rfl rfl ?_
      (repeat refine RC.seq ?_); refine RC.region ?_
      refine Run.a (Val.of rfl) ?_
      refine Run.nil (RQ.next ?_)
      refine RC.ret ?_; (repeat first | refine RQ.thenRet ?_ | refine RQ.blockRet ?_); exact RQ.ret1 rfl (Res.tmp rfl) fun w' hm => ⟨rfl, hm.fr⟩
    · have hRt' := fun w' hs' hK' => hRt s w' hs' hK'
      rw [hr] at hRt'
      rw [hr, decide_eq_true (by omega), Bool.true_and, Bool.true_and] at hst
      (repeat refine RC.seq ?_); refine RC.region ?_
      refine Run.a (Val.fieldAddr tabOk rfl rfl rfl rfl rfl rfl rfl rfl) ?_
      refine Run.a (Val.load (v := .int .i64 s.key) tabOk rfl rfl rfl m0 hk0) ?_
      refine Run.a (Val.of rfl) ?_
      refine Run.a (Val.eq (Val.of rfl) (show _ = Value.bool false from congrArg Value.bool (decide_eq_false hle))) ?_
      refine Run.a (Val.of rfl) ?_
      refine Run.a (Val.loadAll tabOk rfl rfl rfl rfl m2 rfl) ?_
      refine Run.a (Val.loadU tabOk rfl rfl rfl rfl m1 hm8) ?_
      refine Run.a (Val.loadAll tabOk rfl rfl rfl rfl m0 (by rw [List.size_toArray, hl1]; rfl)) ?_
      refine Run.opG (Wanted.guard rfl rfl rfl rfl) (OpTo.callV Tryz.func59 rfl rfl rfl rfl rfl rfl (fun w' hm => hRt' w' (hs.mem hm) (hK.fr hm.fr (by simp)))) (fun _ => ?_)
      refine Run.a (Val.of rfl) ?_
      refine Run.a (Val.of rfl) ?_
      refine Run.nil (RQ.next ?_)
      (repeat refine RC.seq ?_); refine RC.condF rfl rfl (RC.skip (RQ.next ?_))
      refine RC.region ?_
      refine Run.a (Val.fieldAddr tabOk rfl rfl rfl rfl rfl rfl rfl rfl) ?_
      refine Run.a (Val.load (v := .int .i64 s.key) tabOk rfl rfl rfl m0 hk0) ?_
      refine Run.a (Val.of rfl) ?_
      refine Run.nil (RQ.blockNormal (RQ.next ?_))
      refine RC.region ?_
      repeat (first | refine Run.a Val.ra ?_ | refine Run.a (Val.of rfl) ?_)
      exact Run.nil (RQ.up (i + 1) s.key (Nat.lt_succ_self _) hi' (by rw [hgo, hst]) ⟨rfl, rfl, rfl, rfl, rfl, rfl, trivial⟩ (List.Sublist.cons _ (List.Sublist.refl _)))
  · have hi' : i = ss.length := by have := of_decide_eq_false h; omega
    subst hi'
    rw [hgo, List.drop_length]
    (repeat refine RQ.thenExit ?_); refine RQ.blockHere ?_
    refine RQ.next ?_
    (repeat refine RC.seq ?_); refine RC.region ?_
    refine Run.a (Val.of rfl) ?_
    refine Run.nil (RQ.next ?_)
    refine RC.ret ?_; (repeat first | refine RQ.thenRet ?_ | refine RQ.blockRet ?_); exact RQ.ret1 rfl (Res.tmp rfl) fun w' hm => ⟨rfl, hm.fr⟩

set_option maxRecDepth 10000 in set_option maxHeartbeats 4000000 in
theorem qrefCheck_calls (ln wd nd : Int) (l : List (List Nat)) (hH : HL l) (hll : l.length ≤ 9223372036854775807) (m : List Nat) (hm8 : m.length = 8) (hmlt : ∀ x ∈ m, x < 256) (ss : List Sg) (hsl : ss.length ≤ 9223372036854775807) (v vs : Value) (w : World)
    (hs : SrcW w 8 v l.length (u8s l.flatten)) (hv : SrcW w 282 vs ss.length (rowSg ss)) :
    Gives Tryz.prog 35 [.agg (prm ln wd nd v).toArray, .agg (u8s m).toArray, vs] (.bool (chkQ ln wd nd l m ss)) w := by
  refine enter Tryz.func35 rfl (Mem.nil w []) rfl ?_
  obtain ⟨sa, sc, rfl, hsc⟩ := hv.shape
  obtain ⟨ka, kc, rfl, hkc⟩ := hs.shape
  have hM := fun w' hs' => MayParams_calls ln wd nd l hH hll (.slice ka l.length kc) w' hs'
  have hRt := fun s w' hs' => qref_right_calls ln wd nd l hH m hm8 hmlt s (.slice ka l.length kc) w' hs'
  (repeat refine RC.seq ?_); refine RC.region ?_
  refine Run.nw (New.boxA rfl rfl) ?_
  intro b3
  refine Run.nw (New.boxA rfl rfl) ?_
  intro b4
  refine Run.a (Val.of rfl) ?_
  refine Run.nil (RQ.next ?_)
  cases hmay : mayP ln wd nd l
  · rw [hmay] at hM
    rw [chkQ_may hmay]
    (repeat refine RC.seq ?_); refine RC.region ?_
    refine Run.a (Val.loadAll tabOk rfl rfl rfl rfl m1 rfl) ?_
    refine Run.callV Tryz.func40 rfl rfl rfl rfl rfl rfl rfl (fun w' hm => hM w' (hs.mem hm)) ?_
    refine Run.a (Val.of rfl) ?_
    refine Run.a (Val.of rfl) ?_
    refine Run.sk ?_
    refine Run.sk ?_
    refine Run.sk ?_
    refine Run.sk ?_
    refine Run.sk ?_
    refine Run.a (Val.of rfl) ?_
    refine Run.a (Val.of rfl) ?_
    refine Run.sk ?_
    refine Run.sk ?_
    refine Run.sk ?_
    refine Run.sk ?_
    refine Run.sk ?_
    refine Run.sk ?_
    refine Run.a (Val.of rfl) ?_
    refine Run.nil (RQ.next ?_)
    (repeat refine RC.seq ?_); refine RC.condT rfl rfl ?_
    (repeat refine RC.seq ?_); refine RC.region ?_
    refine Run.a (Val.of rfl) ?_
    refine Run.nil (RQ.next ?_)
    refine RC.ret ?_; (repeat first | refine RQ.thenRet ?_ | refine RQ.blockRet ?_); exact RQ.ret1 rfl (Res.tmp rfl) fun w' hm => ⟨rfl, hm.fr⟩
  rw [hmay] at hM
  by_cases hfew : (ss.length : Int) < nd
  · rw [chkQ_few (by omega)]
    (repeat refine RC.seq ?_); refine RC.region ?_
    refine Run.a (Val.loadAll tabOk rfl rfl rfl rfl m1 rfl) ?_
    refine Run.callV Tryz.func40 rfl rfl rfl rfl rfl rfl rfl (fun w' hm => hM w' (hs.mem hm)) ?_
    refine Run.a (Val.of rfl) ?_
    refine Run.a (Val.of rfl) ?_
    refine Run.a (Val.of rfl) ?_
    refine Run.a (Val.len (len := ss.length) tabOk rfl rfl rfl rfl) ?_
    refine Run.a (Val.fieldAddr tabOk rfl rfl rfl rfl rfl rfl rfl rfl) ?_
    refine Run.a (Val.load (v := .int .i64 nd) tabOk rfl rfl rfl m1 rfl) ?_
    refine Run.a (Val.eq (Val.of rfl) (show _ = Value.bool true from congrArg Value.bool (decide_eq_true hfew))) ?_
    refine Run.a (Val.of rfl) ?_
    refine Run.a (Val.of rfl) ?_
    refine Run.sk ?_
    refine Run.sk ?_
    refine Run.sk ?_
    refine Run.sk ?_
    refine Run.sk ?_
    refine Run.sk ?_
    refine Run.a (Val.of rfl) ?_
    refine Run.nil (RQ.next ?_)
    (repeat refine RC.seq ?_); refine RC.condT rfl rfl ?_
    (repeat refine RC.seq ?_); refine RC.region ?_
    refine Run.a (Val.of rfl) ?_
    refine Run.nil (RQ.next ?_)
    refine RC.ret ?_; (repeat first | refine RQ.thenRet ?_ | refine RQ.blockRet ?_); exact RQ.ret1 rfl (Res.tmp rfl) fun w' hm => ⟨rfl, hm.fr⟩
  by_cases hmany : l.length < ss.length
  · rw [chkQ_many hmany]
    (repeat refine RC.seq ?_); refine RC.region ?_
    refine Run.a (Val.loadAll tabOk rfl rfl rfl rfl m1 rfl) ?_
    refine Run.callV Tryz.func40 rfl rfl rfl rfl rfl rfl rfl (fun w' hm => hM w' (hs.mem hm)) ?_
    refine Run.a (Val.of rfl) ?_
    refine Run.a (Val.of rfl) ?_
    refine Run.a (Val.of rfl) ?_
    refine Run.a (Val.len (len := ss.length) tabOk rfl rfl rfl rfl) ?_
    refine Run.a (Val.fieldAddr tabOk rfl rfl rfl rfl rfl rfl rfl rfl) ?_
    refine Run.a (Val.load (v := .int .i64 nd) tabOk rfl rfl rfl m1 rfl) ?_
    refine Run.a (Val.eq (Val.of rfl) (show _ = Value.bool false from congrArg Value.bool (decide_eq_false hfew))) ?_
    refine Run.a (Val.of rfl) ?_
    refine Run.a (Val.of rfl) ?_
    refine Run.a (Val.of rfl) ?_
    refine Run.a (Val.len (len := ss.length) tabOk rfl rfl rfl rfl) ?_
    refine Run.a (Val.fieldAddr tabOk rfl rfl rfl rfl rfl rfl rfl rfl) ?_
    refine Run.a (Val.load (v := .slice ka l.length kc) tabOk rfl rfl rfl m1 rfl) ?_
    refine Run.a (Val.len (len := l.length) tabOk rfl rfl rfl rfl) ?_
    refine Run.a (Val.eq (Val.of rfl) (show _ = Value.bool true from congrArg Value.bool (decide_eq_true (by omega)))) ?_
    refine Run.a (Val.of rfl) ?_
    refine Run.nil (RQ.next ?_)
    (repeat refine RC.seq ?_); refine RC.condT rfl rfl ?_
    (repeat refine RC.seq ?_); refine RC.region ?_
    refine Run.a (Val.of rfl) ?_
    refine Run.nil (RQ.next ?_)
    refine RC.ret ?_; (repeat first | refine RQ.thenRet ?_ | refine RQ.blockRet ?_); exact RQ.ret1 rfl (Res.tmp rfl) fun w' hm => ⟨rfl, hm.fr⟩
  rw [chkQ_goes hmay (by omega)]
  (repeat refine RC.seq ?_); refine RC.region ?_
  refine Run.a (Val.loadAll tabOk rfl rfl rfl rfl m1 rfl) ?_
  refine Run.callV Tryz.func40 rfl rfl rfl rfl rfl rfl rfl (fun w' hm => hM w' (hs.mem hm)) ?_
  refine Run.a (Val.of rfl) ?_
  refine Run.a (Val.of rfl) ?_
  refine Run.a (Val.of rfl) ?_
  refine Run.a (Val.len (len := ss.length) tabOk rfl rfl rfl rfl) ?_
  refine Run.a (Val.fieldAddr tabOk rfl rfl rfl rfl rfl rfl rfl rfl) ?_
  refine Run.a (Val.load (v := .int .i64 nd) tabOk rfl rfl rfl m1 rfl) ?_
  refine Run.a (Val.eq (Val.of rfl) (show _ = Value.bool false from congrArg Value.bool (decide_eq_false hfew))) ?_
  refine Run.a (Val.of rfl) ?_
  refine Run.a (Val.of rfl) ?_
  refine Run.a (Val.of rfl) ?_
  refine Run.a (Val.len (len := ss.length) tabOk rfl rfl rfl rfl) ?_
  refine Run.a (Val.fieldAddr tabOk rfl rfl rfl rfl rfl rfl rfl rfl) ?_
  refine Run.a (Val.load (v := .slice ka l.length kc) tabOk rfl rfl rfl m1 rfl) ?_
  refine Run.a (Val.len (len := l.length) tabOk rfl rfl rfl rfl) ?_
  refine Run.a (Val.eq (Val.of rfl) (show _ = Value.bool false from congrArg Value.bool (decide_eq_false (by omega)))) ?_
  refine Run.a (Val.of rfl) ?_
  refine Run.nil (RQ.next ?_)
  (repeat refine RC.seq ?_); refine RC.condF rfl rfl (RC.skip (RQ.next ?_))
  (repeat refine RC.seq ?_); refine RC.region ?_
  refine Run.a (Val.of rfl) ?_
  refine Run.nil (RQ.next ?_)
  (repeat refine RC.seq ?_); refine RC.block ?_
  refine RC.up ss.length (D := Int) (fun i last => goes l m (-1) ss = goes l m last (ss.drop i) ∧ (i = 0 → last = -1) ∧ (0 < i → ∃ t, ss[i - 1]? = some t ∧ t.key = last))
    (fun i last => [(7, .int .i64 i), (4, .pointer (some ⟨b4, 0, none⟩)), (3, .pointer (some ⟨b3, 0, none⟩)), (2, .slice sa ss.length sc)])
    (fun _ _ => [(b4, .cells (u8s m).toArray 32 (0, 0)), (b3, .cells (prm ln wd nd (.slice ka l.length kc)).toArray 43 (0, 0))]) 0 (-1) (Nat.zero_le _) ⟨rfl, fun _ => rfl, fun h => by omega⟩ ⟨rfl, rfl, rfl, rfl, trivial⟩ (List.Sublist.refl _) ?_
  rintro i last hi ⟨hgo, hz, hp⟩
  (repeat refine RC.seq ?_); refine RC.region ?_
  refine Run.a (Val.of rfl) ?_
  refine Run.a (Val.of rfl) ?_
  refine Run.a (Val.len (len := ss.length) tabOk rfl rfl rfl rfl) ?_
  refine Run.a (Val.of rfl) ?_
  refine Run.nil (RQ.next ?_)
  (repeat refine RC.seq ?_); refine RC.wh rfl (fun h => RQ.next ?_) (fun h => ?_)
  · have hi' : i < ss.length := by have := of_decide_eq_true h; omega
    clear h
    obtain ⟨s, hx⟩ : ∃ s, ss[i]? = some s := ⟨_, List.getElem?_eq_getElem hi'⟩
    obtain ⟨ad, c, hv', hc, hcl, hr⟩ := hv.pos (by omega)
    cases hv'
    have hload := sgAt hr hx
    have hst := goes_step (l := l) (m := m) (last := last) hx
    have hl1 := s.len
    have hkey : w.cell? ((ad.add (i * 282)).add 0) = some (.int .i64 s.key) := hload 0 _ rfl
    (repeat refine RC.seq ?_); refine RC.block ?_
    by_cases h0 : i = 0
    · have hlast := hz h0
      (repeat refine RC.seq ?_); refine RC.drawS mixed (N := 26) rfl ?_
      refine DR.t 0 rfl (Val.of rfl) ?_
      refine DR.t 1 rfl (Val.eq (Val.of rfl) (show _ = Value.bool false from congrArg Value.bool (decide_eq_false (by omega)))) ?_
      refine DR.t 2 rfl (Val.of rfl) ?_
      refine DR.p 3 rfl ?_
      refine DR.p 4 rfl ?_
      refine DR.p 5 rfl ?_
      refine DR.p 6 rfl ?_
      refine DR.p 7 rfl ?_
      refine DR.p 8 rfl ?_
      refine DR.p 9 rfl ?_
      refine DR.p 10 rfl ?_
      refine DR.p 11 rfl ?_
      refine DR.p 12 rfl ?_
      refine DR.p 13 rfl ?_
      refine DR.p 14 rfl ?_
      refine DR.t 15 rfl (Val.of rfl) ?_
      refine DR.t 16 rfl (Val.of rfl) ?_
      refine DR.t 17 rfl (Val.loadAll tabOk rfl rfl rfl rfl m1 rfl) ?_
      refine DR.t 18 rfl (Val.loadU tabOk rfl rfl rfl rfl m0 hm8) ?_
      refine DR.t 19 rfl (Val.of rfl) ?_
      refine DR.t 20 rfl (Val.of rfl) ?_
      refine DR.t 21 rfl (Val.ixS tabOk i (ad' := ad.add (i * 282)) rfl rfl rfl rfl rfl rfl rfl hi' rfl) ?_
      refine DR.t 22 rfl (Val.loadOld tabOk (cs := s.c) rfl rfl rfl rfl (by simp) (by rw [hl1]; rfl) hload) ?_
      refine DR.c 23 ?_
      refine DOp.op1 rfl (OpTo.callV Tryz.func63 rfl rfl rfl rfl rfl rfl (fun w' hm => hRt s w' (hs.mem hm))) (fun _ => ?_)
      cases hr : rightS l m s
      · rw [hgo, hst, hr, Bool.false_and, Bool.and_false]
        refine DR.t 24 rfl (Val.of rfl) ?_
        refine DR.t 25 rfl (Val.of rfl) ?_
        refine DR.done (by kernel_rfl) (RQ.next ?_)
        (repeat refine RC.seq ?_); refine RC.condT rfl rfl ?_
        (repeat refine RC.seq ?_); refine RC.region ?_
        refine Run.a (Val.of rfl) ?_
        refine Run.nil (RQ.next ?_)
        refine RC.ret ?_; (repeat first | refine RQ.thenRet ?_ | refine RQ.blockRet ?_); exact RQ.ret1 rfl (Res.tmp rfl) fun w' hm => ⟨rfl, hm.fr⟩
      · have hin := rightS_in hr
        rw [hr, decide_eq_true (by omega), Bool.true_and, Bool.true_and] at hst
        refine DR.t 24 rfl (Val.of rfl) ?_
        refine DR.t 25 rfl (Val.of rfl) ?_
        refine DR.done (by kernel_rfl) (RQ.next ?_)
        refine RC.condF rfl rfl (RC.skip (RQ.blockNormal (RQ.next ?_)))
        refine RC.region ?_
        repeat (first | refine Run.a Val.ra ?_ | refine Run.a (Val.of rfl) ?_)
        exact Run.nil (RQ.up (i + 1) s.key (Nat.lt_succ_self _) hi' ⟨by rw [hgo, hst], fun h => by omega, fun _ => ⟨s, by rw [Nat.add_sub_cancel]; exact hx, rfl⟩⟩ ⟨rfl, rfl, rfl, rfl, trivial⟩ (List.Sublist.refl _))
    · obtain ⟨t, ht, htk⟩ := hp (by omega)
      have hload2 := sgAt hr ht
      have hkey2 : w.cell? ((ad.add ((i - 1) * 282)).add 0) = some (.int .i64 last) := by rw [← htk]; exact hload2 0 _ rfl
      (repeat refine RC.seq ?_); refine RC.drawS mixed (N := 26) rfl ?_
      refine DR.t 0 rfl (Val.of rfl) ?_
      refine DR.t 1 rfl (Val.eq (Val.of rfl) (show _ = Value.bool true from congrArg Value.bool (decide_eq_true (by omega)))) ?_
      refine DR.t 2 rfl (Val.of rfl) ?_
      refine DR.t 3 rfl (Val.of rfl) ?_
      refine DR.t 4 rfl (Val.of rfl) ?_
      refine DR.t 5 rfl (Val.ixS tabOk i (ad' := ad.add (i * 282)) rfl rfl rfl rfl rfl rfl rfl hi' rfl) ?_
      refine DR.t 6 rfl (Val.fieldAddrA tabOk rfl rfl rfl rfl rfl rfl rfl rfl) ?_
      refine DR.t 7 rfl (Val.loadOld1 (v := .int .i64 s.key) tabOk rfl rfl rfl rfl (by simp) hkey) ?_
      refine DR.t 8 rfl (Val.of rfl) ?_
      refine DR.t 9 rfl (Val.of rfl) ?_
      refine DR.t 10 rfl (Val.eq (Val.ar rfl rfl rfl rfl (by dsimp only [inK]; omega)) (show _ = Value.int .i64 ((i - 1 : Nat) : Int) from congrArg (Value.int .i64) (by omega))) ?_
      refine DR.t 11 rfl (Val.ixS tabOk (i - 1) (ad' := ad.add ((i - 1) * 282)) rfl rfl rfl rfl rfl rfl rfl (by omega) rfl) ?_
      refine DR.t 12 rfl (Val.fieldAddrA tabOk rfl rfl rfl rfl rfl rfl rfl rfl) ?_
      refine DR.t 13 rfl (Val.loadOld1 (v := .int .i64 last) tabOk rfl rfl rfl rfl (by simp) hkey2) ?_
      by_cases hle : s.key ≤ last
      · rw [hgo, hst, decide_eq_false (by omega)]
        refine DR.t 14 rfl (Val.eq (Val.of rfl) (show _ = Value.bool true from congrArg Value.bool (decide_eq_true hle))) ?_
        refine DR.t 15 rfl (Val.of rfl) ?_
        refine DR.t 16 rfl (Val.of rfl) ?_
        refine DR.p 17 rfl ?_
        refine DR.p 18 rfl ?_
        refine DR.p 19 rfl ?_
        refine DR.p 20 rfl ?_
        refine DR.p 21 rfl ?_
        refine DR.p 22 rfl ?_
        refine DR.cp 23 rfl ?_
        refine DR.p 24 rfl ?_
        refine DR.t 25 rfl (Val.of rfl) ?_
        refine DR.done (by kernel_rfl) (RQ.next ?_)
        (repeat refine RC.seq ?_); refine RC.condT rfl rfl ?_
        (repeat refine RC.seq ?_); refine RC.region ?_
        refine Run.a (Val.of rfl) ?_
        refine Run.nil (RQ.next ?_)
        refine RC.ret ?_; (repeat first | refine RQ.thenRet ?_ | refine RQ.blockRet ?_); exact RQ.ret1 rfl (Res.tmp rfl) fun w' hm => ⟨rfl, hm.fr⟩
      refine DR.t 14 rfl (Val.eq (Val.of rfl) (show _ = Value.bool false from congrArg Value.bool (decide_eq_false hle))) ?_
      refine DR.t 15 rfl (Val.of rfl) ?_
      refine DR.t 16 rfl (Val.of rfl) ?_
      refine DR.t 17 rfl (Val.loadAll tabOk rfl rfl rfl rfl m1 rfl) ?_
      refine DR.t 18 rfl (Val.loadU tabOk rfl rfl rfl rfl m0 hm8) ?_
      refine DR.t 19 rfl (Val.of rfl) ?_
      refine DR.t 20 rfl (Val.of rfl) ?_
      refine DR.t 21 rfl (Val.ixS tabOk i (ad' := ad.add (i * 282)) rfl rfl rfl rfl rfl rfl rfl hi' rfl) ?_
      refine DR.t 22 rfl (Val.loadOld tabOk (cs := s.c) rfl rfl rfl rfl (by simp) (by rw [hl1]; rfl) hload) ?_
      refine DR.c 23 ?_
      refine DOp.op1 rfl (OpTo.callV Tryz.func63 rfl rfl rfl rfl rfl rfl (fun w' hm => hRt s w' (hs.mem hm))) (fun _ => ?_)
      cases hr : rightS l m s
      · rw [hgo, hst, hr, Bool.false_and, Bool.and_false]
        refine DR.t 24 rfl (Val.of rfl) ?_
        refine DR.t 25 rfl (Val.of rfl) ?_
        refine DR.done (by kernel_rfl) (RQ.next ?_)
        (repeat refine RC.seq ?_); refine RC.condT rfl rfl ?_
        (repeat refine RC.seq ?_); refine RC.region ?_
        refine Run.a (Val.of rfl) ?_
        refine Run.nil (RQ.next ?_)
        refine RC.ret ?_; (repeat first | refine RQ.thenRet ?_ | refine RQ.blockRet ?_); exact RQ.ret1 rfl (Res.tmp rfl) fun w' hm => ⟨rfl, hm.fr⟩
      · rw [hr, decide_eq_true (by omega), Bool.true_and, Bool.true_and] at hst
        refine DR.t 24 rfl (Val.of rfl) ?_
        refine DR.t 25 rfl (Val.of rfl) ?_
        refine DR.done (by kernel_rfl) (RQ.next ?_)
        refine RC.condF rfl rfl (RC.skip (RQ.blockNormal (RQ.next ?_)))
        refine RC.region ?_
        repeat (first | refine Run.a Val.ra ?_ | refine Run.a (Val.of rfl) ?_)
        exact Run.nil (RQ.up (i + 1) s.key (Nat.lt_succ_self _) hi' ⟨by rw [hgo, hst], fun h => by omega, fun _ => ⟨s, by rw [Nat.add_sub_cancel]; exact hx, rfl⟩⟩ ⟨rfl, rfl, rfl, rfl, trivial⟩ (List.Sublist.refl _))
  · have hi' : i = ss.length := by have := of_decide_eq_false h; omega
    subst hi'
    rw [hgo, List.drop_length]
    (repeat refine RQ.thenExit ?_); refine RQ.blockHere ?_
    refine RQ.next ?_
    (repeat refine RC.seq ?_); refine RC.region ?_
    refine Run.a (Val.of rfl) ?_
    refine Run.nil (RQ.next ?_)
    refine RC.ret ?_; (repeat first | refine RQ.thenRet ?_ | refine RQ.blockRet ?_); exact RQ.ret1 rfl (Res.tmp rfl) fun w' hm => ⟨rfl, hm.fr⟩
end Go.Proofs.YtkkfaffehbjdgaaGreatDoor

/- quorum: Count, and the reference's. -/
namespace Go.Proofs.YtkkfaffehbjdgaaGreatDoor
open Go Go.Vc Go.Sha

end Go.Proofs.YtkkfaffehbjdgaaGreatDoor
end
