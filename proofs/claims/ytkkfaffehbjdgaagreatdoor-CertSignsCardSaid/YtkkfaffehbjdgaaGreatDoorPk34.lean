/- Lemmas. -/
import Derived.ChangeStays
import Derived.ChangeOld
import Derived.ChangeSame
import Derived.RowKit
import Derived.OpenShut
import Derived.ProofKit
import Derived.Deep.DeepHandedRow
import GoSem.ClaimSeven
import Derived.Deep.Slices
import Derived.Test.YtkkfaffehbjdgaaGreatDoorCards
import Derived.Test.YtkkfaffehbjdgaaGreatDoorTie
import Derived.WalkKit
import Derived.Lib.LaidTab
import Derived.Test.YtkkfaffehbjdgaaGreatDoorPk33
set_option linter.unusedSimpArgs false
set_option linter.unusedVariables false
section
/- cert: awake. -/
namespace Go.Proofs.YtkkfaffehbjdgaaGreatDoor
attribute [local irreducible] Go.Vc.Run Go.Vc.RC Go.Vc.RQ Go.Vc.DR Go.Vc.DOp Go.Vc.Knows Go.Vc.At
set_option maxHeartbeats 400000
set_option maxRecDepth 10000
open Go Go.Vc Go.Sha
set_option maxRecDepth 10000 in set_option maxHeartbeats 4000000 in
theorem c14awake_calls (w : World) (hK : Laid w) : Gives Tryz.prog 7 [] (.bool true) w := by
  refine enter Tryz.func7 rfl (Mem.nil w []) rfl ?_
  refine x_ ?_
  refine Run.nw (nbsk (parts := [(0, .const (.int .i64 9))]) #[.int .i64 9]) ?_
  intro b9
  refine x_ ?_
  have hz0 : ([(b9, Obj.cells #[.int .i64 9] 3 (0, 0))] : Hp).Perm ([] ++ [(b9, Obj.cells #[.int .i64 9] 3 (0, 0))]) := List.Perm.refl _
  refine Run.op1 (OpTo.callT Tryz.func8 hz0 (fun w' hm => FillK_calls 9 (by decide) _ w' (SrcW.row (cs := i64L [9]) hm m0 rfl (Nat.le_refl 1)))) ?_
  intro y
  refine x_ ?_
  refine Run.nw (nbsk (parts := [(0, .const (.int .i64 4)), (1, .const (.int .i64 5))]) #[.int .i64 4, .int .i64 5]) ?_
  intro b15
  refine x_ ?_
  refine Run.nw (nbsk (parts := [(0, .const (.int .u8 0)), (1, .const (.int .u8 2))]) #[.int .u8 0, .int .u8 2]) ?_
  intro b16
  refine x_ ?_
  refine Run.a (vbs (planC 0 0 ((3 : Nat) : Int) (.slice (some ⟨b15, 0, none⟩) 2 2) (.slice (some ⟨b16, 0, none⟩) 2 2) 0).toArray) ?_
  refine Run.op1 (OpTo.callD Tryz.func10 (fun w' hm => CMake_calls 0 0 3 (by decide) [4, 5] (by decide) [0, 2] (by decide) (by decide) 0 (.inl rfl) _ _ w' (SrcW.row (cs := i64L [4, 5]) hm m1 rfl (Nat.le_refl 2)) (SrcW.row (cs := u8s [0, 2]) hm m0 rfl (Nat.le_refl 2)))) ?_
  rintro ⟨⟨⟨⟨oa, oc⟩, ⟨sa, sc⟩⟩, bl⟩, _, hk⟩
  dsimp only at hk ⊢
  obtain ⟨c, hc⟩ : ∃ c, c = crtP 0 0 3 [4, 5] [0, 2] 0 := ⟨_, rfl⟩
  have hos : c.os.length = 2 := by rw [hc]; exact outsI_len _
  have hsg : c.sg.length = 2 := by rw [hc]; show ((sgL _ _ _ _).map Sg.D).length = 2; rw [List.length_map, sgL_len]; rfl
  have hF : ceC (crtP 0 0 3 [4, 5] [0, 2] 0) (.slice oa [(4 : Int), 5].length oc) (.slice sa [0, 2].length sc) = ceC c (.slice oa c.os.length oc) (.slice sa c.sg.length sc) := by rw [hos, hsg, ← hc]; rfl
  have hF21 : (ceC c (.slice oa c.os.length oc) (.slice sa c.sg.length sc)).toArray.size = 21 := by rw [List.size_toArray, ceC_len]
  have hF1 := ceC_one c oa c.os.length oc sa c.sg.length sc
  rw [hF]
  refine x_ ?_
  refine Run.nw nal ?_
  intro b3
  refine x_ ?_
  refine Run.op1 (osa (arr := ti36.zero.cells) (ceC c (.slice oa c.os.length oc) (.slice sa c.sg.length sc)).toArray hF1 (hs := by exact hF21)) (fun _ => ?_)
  refine x_ ?_
  have kE : Knows Tryz.prog w 11 [] (.agg (u8s endB.1).toArray) := Knows.mk Tryz.func11 (fun w' _ => End_calls w')
  have hxl : y.x.ln := by
    have h := y.hd
    exact ⟨by rw [h]; show (certs 3).length ≤ 4096; rw [certs_len]; decide, by rw [h]; exact Nat.zero_le _, by rw [h]; exact Nat.zero_le _, by rw [h]; exact Nat.zero_le _⟩
  have hHL : HL y.x.d.r.keys := by rw [y.hd]; exact certs_HL 3
  obtain ⟨ss, hss⟩ : ∃ ss, ss = sgL (crtH (crt0 0 0 3 [4, 5])) ([0, 2].map fun k : Nat => (k : Int)) [] 2 := ⟨_, rfl⟩
  have hrow : rws SgD.c c.sg = rowSg ss := by rw [hc, hss]; exact rowD _
  have hsl : c.sg.length = ss.length := by rw [hsg, hss, sgL_len]
  have hv : chkK y.x.d c 8 endB.1 ss = 0 := by
    rw [y.hd, hc, hss]
    have := chk_crt (n := 9) (p := false) (cc := CeD.nul) (ep := 0) (q := 3) (ams := [4, 5]) (who := [0, 2]) (h := 8) (e := endB.1) (by decide) (by decide) (by decide) (by decide) (by decide) (by decide)
    rw [show [0, 2].length = 2 from rfl] at this
    rw [this]
    have hf : fitsK ⟨rcF 9, false, CeD.nul⟩ (crtP 0 0 3 [4, 5] [0, 2] 0) 8 endB.1 = 0 := by
      rw [fits_crt, open_crt (by decide)]
      rw [if_neg (by decide), if_neg (by decide), if_neg (by decide)]
    rw [hf, if_neg (by decide)]
    exact if_pos rfl
  have hos1 : ∀ o ∈ c.os, 0 ≤ o.am ∧ o.am ≤ 100000 := by
    intro o ho
    rw [hc] at ho
    obtain ⟨i, a, ha, rfl⟩ := outsI_mem ho
    have : a = 4 ∨ a = 5 := by simpa using ha
    show 0 ≤ a ∧ a ≤ 100000
    omega
  have hk' : ∀ w, Has bl w → SrcW w 9 (.slice oa c.os.length oc) c.os.length (rws OutD.c c.os) ∧ SrcW w 282 (.slice sa c.sg.length sc) c.sg.length (rws SgD.c c.sg) := fun w hw => by
    have h := hk w hw
    rw [hos, hsg, hc]
    exact h
  unfold FlY.L
  have hp1 : ((b3, Obj.cells (ceC c (.slice oa c.os.length oc) (.slice sa c.sg.length sc)).toArray 36 (0, 0)) :: (bl ++ ((b16, Obj.cells #[.int .u8 0, .int .u8 2] 5 (0, 0)) :: ((b15, Obj.cells #[.int .i64 4, .int .i64 5] 3 (0, 0)) :: ((KW y.b y.bb y.cap y.rest y.x ++ (y.pool ++ (y.rst.L ++ y.rpool))) ++ [(b9, Obj.cells #[.int .i64 9] 3 (0, 0))])))) : Hp).Perm ((KW y.b y.bb y.cap y.rest y.x ++ (bl ++ y.pool)) ++ ((b3, Obj.cells (ceC c (.slice oa c.os.length oc) (.slice sa c.sg.length sc)).toArray 36 (0, 0)) :: ((b16, Obj.cells #[.int .u8 0, .int .u8 2] 5 (0, 0)) :: ((b15, Obj.cells #[.int .i64 4, .int .i64 5] 3 (0, 0)) :: ((y.rst.L ++ y.rpool) ++ [(b9, Obj.cells #[.int .i64 9] 3 (0, 0))]))))) := (perm_of fun f => by (simp only [List.map_append, List.map_cons, List.map_nil, List.sum_append, List.sum_cons, List.sum_nil] <;> omega))
  (repeat refine RC.seq ?_); refine RC.draw ([(b3, Obj.cells (ceC c (.slice oa c.os.length oc) (.slice sa c.sg.length sc)).toArray 36 (0, 0))]) mixed (N := 10) rfl ?_
  refine dy 0 ?_
  refine dy 1 ?_
  refine dy 4 ?_
  refine dy 5 ?_
  refine DR.c 2 (DOp.op1 rfl cvK (fun _ => ?_))
  refine DR.c 3 (DOp.op1 rfl (OpTo.callT Tryz.func9 hp1 (fun w' hm => TakeK_yes y.x hxl hHL c (by rw [hc]; rfl) hos1 (by omega) (by omega) ss hrow hsl oa oc sa sc 8 endB.1 rfl y.b y.bb y.cap y.rest w' hv y.hcap (fun w hw => ⟨y.hok w hw.right, hk' w hw.left⟩) (hasFs hp1 hm).1 (hasFs hp1 hm).2 (hK.fr hm.fr (by simp)) (freshC hK (by simp) (hm.perm hp1) (fun p hp => List.mem_append_left _ hp)))) ?_)
  rintro ⟨⟨z, bz⟩, hzd, hzk⟩
  dsimp only at hzd hzk ⊢
  have hzr : y.x.d.r = rcF 9 := by rw [y.hd]
  rw [hzr] at hzd
  have hv2 : chkK z.d c 9 endB.1 ss = 10 := by
    rw [hzd, hss]
    have := chk_crt (n := 9) (p := true) (cc := c) (ep := 0) (q := 3) (ams := [4, 5]) (who := [0, 2]) (h := 9) (e := endB.1) (by decide) (by decide) (by decide) (by decide) (by decide) (by decide)
    rw [show [0, 2].length = 2 from rfl, ← hc] at this
    rw [this]
    have hf : fitsK ⟨rcF 9, true, c⟩ c 9 endB.1 = 10 := by
      rw [hc, fits_crt, open_crt (by decide)]
      rw [if_neg (by decide)]
      exact if_pos ⟨rfl, Int.le_refl 3⟩
    rw [hf]
    exact if_pos (by decide)
  have hzl : z.ln := ⟨by rw [hzd]; show (certs 3).length ≤ 4096; rw [certs_len]; decide, by rw [hzd]; show c.os.length ≤ 4096; omega, by rw [hzd]; show c.sg.length ≤ 4096; omega, by rw [hzd]; exact Nat.zero_le _⟩
  have hzH : HL z.d.r.keys := by rw [hzd]; exact certs_HL 3
  have hT2 := fun w' h1 h2 h3 h4 h5 => TakeK_no z hzl hzH c (by rw [hc]; rfl) hos1 (by omega) (by omega) ss hrow hsl oa oc sa sc 9 endB.1 rfl y.b y.bb y.cap y.rest w' (by rw [hv2]; decide) h1 h2 h3 h4 h5
  rw [hv2] at hT2
  refine DR.c 6 (DOp.op1 rfl cvK (fun _ => ?_))
  refine DR.c 7 (DOp.op1 rfl (OpTo.cv Tryz.func9 (fun w' hm => hT2 w' (fun p hp => hm.has p (List.mem_append_left _ (List.mem_append_left _ hp))) (hzk w' (fun p hp => hm.has p (List.mem_append_left _ (List.mem_append_right _ (List.mem_append_left _ hp))))) (hk' w' (fun p hp => hm.has p (List.mem_append_left _ (List.mem_append_right _ (List.mem_append_right _ (List.mem_append_left _ hp)))))).1 (hk' w' (fun p hp => hm.has p (List.mem_append_left _ (List.mem_append_right _ (List.mem_append_right _ (List.mem_append_left _ hp)))))).2 (hK.fr hm.fr (by simp)))) (fun _ => ?_))
  refine dy 8 ?_
  refine dy 9 ?_
  refine DR.done (by kernel_rfl) ?_
  refine x_ ?_
  refine Run.op1 (OpTo.callD Tryz.func12 (fun w' hm => SideK_calls z hzl y.b y.bb y.cap y.rest w' (fun p hp => hm.has p (List.mem_append_left _ (List.mem_append_left _ hp))) (hzk w' (fun p hp => hm.has p (List.mem_append_left _ (List.mem_append_right _ (List.mem_append_left _ hp))))))) ?_
  rintro ⟨⟨y2, bq⟩, hd2, hk2⟩
  dsimp only at hd2 hk2 ⊢
  have r19 : rdAt ti4 y2.c.toArray 19 = some (.bool y2.d.pend) := kd_r19 _ _ _ _ _
  have r22 : rdAt ti3 y2.c.toArray 22 = some (.int .i64 y2.d.c.ql) := kd_r22 _ _ _ _ _
  rw [hd2, hzd] at r19 r22
  rw [show (⟨rcF 9, true, c⟩ : Kd).c.ql = 3 from by rw [hc]; rfl] at r22
  have hy42 : y2.c.toArray.size = 42 := by rw [List.size_toArray, y2.len]
  have hy1 := y2.one
  generalize y2.c = Y2 at r19 r22 hy42 hy1 ⊢
  refine x_ ?_
  refine Run.nw nal ?_
  intro b6
  refine x_ ?_
  refine Run.op1 (osa (arr := ti45.zero.cells) Y2.toArray hy1 (hs := by exact hy42)) (fun _ => ?_)
  refine x_ ?_
  exact RQ.ret1 rfl (Res.tmp rfl) fun w' hm => ⟨rfl, hm.fr⟩
end Go.Proofs.YtkkfaffehbjdgaaGreatDoor
end
section
/- cert: Take, whatever it answers; what a plan's certificate is; CertWindow. -/
namespace Go.Proofs.YtkkfaffehbjdgaaGreatDoor
attribute [local irreducible] Go.Vc.Run Go.Vc.RC Go.Vc.RQ Go.Vc.DR Go.Vc.DOp Go.Vc.Knows Go.Vc.At
set_option maxHeartbeats 400000
set_option maxRecDepth 10000
open Go Go.Vc Go.Sha
/-- What a row needs of a plan's certificate. -/
structure CrF (c : CeD) (ss : List Sg) (no ns : Nat) : Prop where
  os : c.os.length = no
  sg : c.sg.length = ns
  sd : c.sd = 0
  am : ∀ o ∈ c.os, 0 ≤ o.am ∧ o.am ≤ 100000
  row : rws SgD.c c.sg = rowSg ss
  sl : c.sg.length = ss.length
noncomputable def sgP (ep : Int) (q : Nat) (ams : List Int) (who : List Nat) (bd : Nat) : List Sg := sgL (msgC (crt0 0 ep q ams) bd) (who.map fun k : Nat => (k : Int)) [] who.length
theorem crF (ep : Int) (q : Nat) {ams : List Int} (who : List Nat) (bd : Nat) (ha : ∀ a ∈ ams, 1 ≤ a ∧ a ≤ 100000) : CrF (crtP 0 ep q ams who bd) (sgP ep q ams who bd) ams.length who.length := by
  have h2 : (crtP 0 ep q ams who bd).sg.length = who.length := by
    show ((sgL _ _ _ _).map Sg.D).length = _
    rw [List.length_map, sgL_len]
  refine ⟨outsI_len _, h2, rfl, ?_, rowD _, ?_⟩
  · intro o ho
    obtain ⟨i, a, h, rfl⟩ := outsI_mem ho
    have := ha a h
    show 0 ≤ a ∧ a ≤ 100000
    omega
  · rw [h2]; exact (sgL_len _ _ _ _).symm
section
variable (x : KX) (hx : x.ln) (hH : HL x.d.r.keys) {c : CeD} {ss : List Sg} {no ns : Nat} (hc : CrF c ss no ns) (hno : no ≤ 64) (hns : ns ≤ 64) (aA : Option Addr) (cA : Nat) (aS : Option Addr) (cS : Nat) (h : Int) (e : List Nat) (he8 : e.length = 8) (sb b cap : Nat) (rest : List Value) (w : World)
include hx hH hc hno hns he8
set_option maxRecDepth 10000 in set_option maxHeartbeats 4000000 in
theorem TakeK_calls (hcap : 42 + rest.length = cap * 42) {ap : Hp} (hk : ∀ w, Has ap w → x.ok w ∧ SrcW w 9 (.slice aA c.os.length cA) c.os.length (rws OutD.c c.os) ∧ SrcW w 282 (.slice aS c.sg.length cS) c.sg.length (rws SgD.c c.sg)) (hw : Has (KW sb b cap rest x ++ ap) w) (hnd : ((KW sb b cap rest x ++ ap).map (·.1)).Nodup) (hK : Laid w) (hst : 0 ∉ (KW sb b cap rest x ++ ap).map (·.1)) :
    Turns Tryz.prog 9 [.pointer (some ⟨sb, 0, none⟩), .agg (ceC c (.slice aA c.os.length cA) (.slice aS c.sg.length cS)).toArray, .int .i64 h, .agg (u8s e).toArray] w (KW sb b cap rest x ++ ap)
      (Y := {z : KX × Hp // z.1.d = (if chkK x.d c h e ss = 0 then ⟨x.d.r, true, c⟩ else x.d) ∧ ∀ w, Has z.2 w → z.1.ok w}) (fun _ => .int .i64 (chkK x.d c h e ss)) (fun z => KW sb b cap rest z.1.1 ++ z.1.2) := by
  have h1 := hc.os
  have h2 := hc.sg
  by_cases hv : chkK x.d c h e ss = 0
  · refine (TakeK_yes x hx hH c hc.sd hc.am (by omega) (by omega) ss hc.row hc.sl aA cA aS cS h e he8 sb b cap rest w hv hcap hk hw hnd hK hst).mono ?_
    rintro e' w' ⟨⟨⟨z, bz⟩, hd, hok⟩, rfl, hf, hbl, hnew, hnn⟩
    exact ⟨⟨(z, bz ++ ap), by rw [if_pos hv]; exact hd, fun w hw => hok w hw.left⟩, by show Ending.returned (Value.int .i64 0) = Ending.returned (Value.int .i64 (chkK x.d c h e ss)); rw [hv], hf, hbl, hnew, hnn⟩
  · refine (TakeK_no x hx hH c hc.sd hc.am (by omega) (by omega) ss hc.row hc.sl aA cA aS cS h e he8 sb b cap rest w hv hw.left (hk w hw.right).1 (hk w hw.right).2.1 (hk w hw.right).2.2 hK).mono ?_
    rintro e' w' ⟨rfl, hf⟩
    exact ⟨⟨(x, ap), by rw [if_neg hv], fun w hw => (hk w hw).1⟩, rfl, hf.any _, hw.fr hf, fun p hp => .inr (List.mem_map_of_mem hp), hnd⟩
end
theorem rcF_ln {n : Int} {p : Bool} {cc : CeD} {z : KX} (hd : z.d = ⟨rcF n, p, cc⟩) (h1 : cc.os.length ≤ 64) (h2 : cc.sg.length ≤ 64) : z.ln ∧ HL z.d.r.keys :=
  ⟨⟨by rw [hd]; show (certs 3).length ≤ 4096; rw [certs_len]; decide, by rw [hd]; show cc.os.length ≤ 4096; omega, by rw [hd]; show cc.sg.length ≤ 4096; omega, by rw [hd]; exact Nat.zero_le _⟩, by rw [hd]; exact certs_HL 3⟩
theorem ifs4 (a b c d : Prop) [Decidable a] [Decidable b] [Decidable c] [Decidable d] : (if (if a then (9 : Int) else if b then 10 else if c then 5 else 0) ≠ 0 then (if a then (9 : Int) else if b then 10 else if c then 5 else 0) else if d then 0 else 11) = if a then 9 else if b then 10 else if c then 5 else if d then 0 else 11 := by
  by_cases ha : a <;> by_cases hb : b <;> by_cases hc : c <;> simp [ha, hb, hc]
theorem chkP {n : Int} {p : Bool} {cc : CeD} {ep : Int} {q : Nat} {ams : List Int} {who : List Nat} {h : Int} {e : List Nat} (hep : 0 ≤ ep ∧ ep ≤ 400) (hq : q < 2147483648) (ha : ∀ a ∈ ams, 1 ≤ a ∧ a ≤ 100000) (hal : ams.length ≤ 16) (hw : 1 ≤ who.length ∧ who.length ≤ 5) (hin : ∀ k ∈ who, k < 3) :
    chkK ⟨rcF n, p, cc⟩ (crtP 0 ep q ams who 0) h e (sgP ep q ams who 0) = if ¬ (3 + (ep + 1) * 4 < h ∧ h ≤ 3 + (ep + 1) * 4 + 2) ∨ endB.1 ≠ e then 9 else if p = true ∧ (q : Int) ≤ cc.ql then 10 else if n < ams.sum then 5 else if (decide ((2 : Int) ≤ who.length) && incr (-1) (who.map fun k : Nat => (k : Int))) = true then 0 else 11 := by
  have h1 := chk_crt (n := n) (p := p) (cc := cc) (h := h) (e := e) hep hq ha hal hw hin
  rw [fits_crt, open_crt hep] at h1
  refine h1.trans ?_
  rw [ifs4]
  simp only [decide_eq_false_iff_not]
set_option maxRecDepth 10000 in set_option maxHeartbeats 4000000 in
theorem CertWindow_calls (ep h : Nat) (hep : ep < 256) (hh : h < 256) (en : Bool) (w : World) (hK : Laid w) : Gives Tryz.prog 4 [.int .u8 ep, .int .u8 h, .bool en] (.bool true) w := by
  refine enter Tryz.func4 rfl (Mem.nil w []) rfl ?_
  obtain ⟨E, hE⟩ : ∃ E : Nat, E = ep % 6 := ⟨_, rfl⟩
  obtain ⟨H, hH⟩ : ∃ H : Nat, H = h % 40 := ⟨_, rfl⟩
  have hE6 : E < 6 := by omega
  have hH40 : H < 40 := by omega
  refine x_ ?_
  refine Run.op1 (OpTo.cv Tryz.func7 (fun w' hm => c14awake_calls w' (hK.fr hm.fr (by simp)))) (fun _ => ?_)
  refine x_ ?_
  refine Run.nw (nbsk (parts := [(0, .const (.int .i64 50))]) #[.int .i64 50]) ?_
  intro b21
  refine x_ ?_
  have hz0 : ([(b21, Obj.cells #[.int .i64 50] 3 (0, 0))] : Hp).Perm ([] ++ [(b21, Obj.cells #[.int .i64 50] 3 (0, 0))]) := List.Perm.refl _
  refine Run.op1 (OpTo.callT Tryz.func8 hz0 (fun w' hm => FillK_calls 50 (by decide) _ w' (SrcW.row (cs := i64L [50]) hm m0 rfl (Nat.le_refl 1)))) ?_
  intro y
  refine x_ ?_
  rw [← hE]
  refine Run.nw (nbsk (parts := [(0, .const (.int .i64 3))]) #[.int .i64 3]) ?_
  intro b31
  refine x_ ?_
  refine Run.nw (nbsk (parts := [(0, .const (.int .u8 1)), (1, .const (.int .u8 2))]) #[.int .u8 1, .int .u8 2]) ?_
  intro b32
  refine x_ ?_
  refine Run.a (vbs (planC 0 (E : Int) ((1 : Nat) : Int) (.slice (some ⟨b31, 0, none⟩) 1 1) (.slice (some ⟨b32, 0, none⟩) 2 2) 0).toArray) ?_
  refine Run.op1 (OpTo.callD Tryz.func10 (fun w' hm => CMake_calls 0 (E : Int) 1 (by decide) [3] (by decide) [1, 2] (by decide) (by decide) 0 (.inl rfl) _ _ w' (SrcW.row (cs := i64L [3]) hm m1 rfl (Nat.le_refl 1)) (SrcW.row (cs := u8s [1, 2]) hm m0 rfl (Nat.le_refl 2)))) ?_
  rintro ⟨⟨⟨⟨oa, oc⟩, ⟨sa, sc⟩⟩, bl⟩, _, hk⟩
  dsimp only at hk ⊢
  obtain ⟨c, hc⟩ : ∃ c, c = crtP 0 (E : Int) 1 [3] [1, 2] 0 := ⟨_, rfl⟩
  obtain ⟨ss, hss⟩ : ∃ ss, ss = sgP (E : Int) 1 [3] [1, 2] 0 := ⟨_, rfl⟩
  have hf : CrF c ss 1 2 := by rw [hc, hss]; exact crF (E : Int) 1 [1, 2] 0 (by decide)
  have hos := hf.os
  have hsg := hf.sg
  rw [show ceC (crtP 0 (E : Int) 1 [3] [1, 2] 0) (.slice oa [(3 : Int)].length oc) (.slice sa [1, 2].length sc) = ceC c (.slice oa c.os.length oc) (.slice sa c.sg.length sc) from by rw [hos, hsg, ← hc]; rfl]
  have hF21 : (ceC c (.slice oa c.os.length oc) (.slice sa c.sg.length sc)).toArray.size = 21 := by rw [List.size_toArray, ceC_len]
  have hF1 := ceC_one c oa c.os.length oc sa c.sg.length sc
  have hk' : ∀ w, Has bl w → SrcW w 9 (.slice oa c.os.length oc) c.os.length (rws OutD.c c.os) ∧ SrcW w 282 (.slice sa c.sg.length sc) c.sg.length (rws SgD.c c.sg) := fun w hw => by
    have h := hk w hw
    rw [hos, hsg, hc]
    exact h
  clear hk
  refine x_ ?_
  refine Run.nw nal ?_
  intro b10
  refine x_ ?_
  refine Run.op1 (osa (arr := ti36.zero.cells) (ceC c (.slice oa c.os.length oc) (.slice sa c.sg.length sc)).toArray hF1 (hs := by exact hF21)) (fun _ => ?_)
  have kE : Knows Tryz.prog w 11 [] (.agg (u8s endB.1).toArray) := Knows.mk Tryz.func11 (fun w' _ => End_calls w')
  refine x_ ?_
  refine Run.nw nal ?_
  intro b11
  refine x_ ?_
  refine Run.op1 (osa (arr := ti32.zero.cells) (u8s endB.1).toArray (u8s_one _)) (fun _ => ?_)
  refine x_ ?_
  obtain ⟨at8, hat, hatl⟩ : ∃ at8 : List Nat, at8 = (if en = true then [120, 0, 0, 0, 0, 0, 0, 0] else endB.1) ∧ at8.length = 8 := ⟨_, rfl, by cases en <;> rfl⟩
  unfold FlY.L
  refine RC.thenCut (Y := Unit) (fun _ => [(11, .pointer (some ⟨b11, 0, none⟩)), (10, .pointer (some ⟨b10, 0, none⟩)), (9, .int .i64 (E : Int)), (7, .pointer (some ⟨y.b, 0, none⟩)), (2, .bool en), (1, .int .u8 h)]) (fun _ => (b11, Obj.cells (u8s at8).toArray 32 (0, 0)) :: ((b10, Obj.cells (ceC c (.slice oa c.os.length oc) (.slice sa c.sg.length sc)).toArray 36 (0, 0)) :: (KW y.b y.bb y.cap y.rest y.x ++ (bl ++ y.pool)))) ?_ (fun _ => ?_)
  · have hp0 : ∀ a : List Nat, ((b11, Obj.cells (u8s a).toArray 32 (0, 0)) :: (b10, Obj.cells (ceC c (.slice oa c.os.length oc) (.slice sa c.sg.length sc)).toArray 36 (0, 0)) :: (bl ++ ((b32, Obj.cells #[.int .u8 1, .int .u8 2] 5 (0, 0)) :: ((b31, Obj.cells #[.int .i64 3] 3 (0, 0)) :: ((KW y.b y.bb y.cap y.rest y.x ++ (y.pool ++ (y.rst.L ++ y.rpool))) ++ [(b21, Obj.cells #[.int .i64 50] 3 (0, 0))])))) : Hp).Perm (((b11, Obj.cells (u8s a).toArray 32 (0, 0)) :: ((b10, Obj.cells (ceC c (.slice oa c.os.length oc) (.slice sa c.sg.length sc)).toArray 36 (0, 0)) :: (KW y.b y.bb y.cap y.rest y.x ++ (bl ++ y.pool)))) ++ ((b32, Obj.cells #[.int .u8 1, .int .u8 2] 5 (0, 0)) :: ((b31, Obj.cells #[.int .i64 3] 3 (0, 0)) :: ((y.rst.L ++ y.rpool) ++ [(b21, Obj.cells #[.int .i64 50] 3 (0, 0))])))) := fun a => (perm_of fun f => by (simp only [List.map_append, List.map_cons, List.map_nil, List.sum_append, List.sum_cons, List.sum_nil] <;> omega))
    cases en
    · rw [if_neg (by decide)] at hat
      subst hat
      refine x_ ?_
      exact RQ.toP () ⟨rfl, rfl, rfl, rfl, rfl, rfl, trivial⟩ (hp0 _) (List.sublist_append_left _ _)
    · rw [if_pos rfl] at hat
      subst hat
      refine x_ ?_
      refine Run.a (vba (u8s [120, 0, 0, 0, 0, 0, 0, 0]).toArray) ?_
      refine Run.op1 (osa (arr := (u8s endB.1).toArray) (e := 32) (L' := (b10, Obj.cells (ceC c (.slice oa c.os.length oc) (.slice sa c.sg.length sc)).toArray 36 (0, 0)) :: (bl ++ ((b32, Obj.cells #[.int .u8 1, .int .u8 2] 5 (0, 0)) :: ((b31, Obj.cells #[.int .i64 3] 3 (0, 0)) :: ((KW y.b y.bb y.cap y.rest y.x ++ (y.pool ++ (y.rst.L ++ y.rpool))) ++ [(b21, Obj.cells #[.int .i64 50] 3 (0, 0))]))))) (u8s [120, 0, 0, 0, 0, 0, 0, 0]).toArray (u8s_one _)) (fun _ => ?_)
      refine x_ ?_
      exact RQ.toP () ⟨rfl, rfl, rfl, rfl, rfl, rfl, trivial⟩ (hp0 _) (List.sublist_append_left _ _)
  have ha8 : (u8s at8).toArray.size = 8 := by rw [List.size_toArray, u8s_len, hatl]
  refine x_ ?_
  rw [← hH]
  have hxd : y.x.d = ⟨rcF 50, false, CeD.nul⟩ := y.hd
  obtain ⟨hxl, hHL⟩ := rcF_ln hxd (Nat.zero_le _) (Nat.zero_le _)
  have hE0 : (0 : Int) ≤ (E : Int) ∧ (E : Int) ≤ 400 := by omega
  obtain ⟨v, hv⟩ : ∃ v, v = chkK y.x.d c (H : Int) at8 ss := ⟨_, rfl⟩
  have hv9 : v = if (3 + ((E : Int) + 1) * 4 < (H : Int) ∧ (H : Int) ≤ 3 + ((E : Int) + 1) * 4 + 2) ∧ en = false then 0 else 9 := by
    have hne : endB.1 ≠ at8 ↔ en = true := by
      rw [hat]; cases en <;> simp [endB]
    rw [hv, hxd, hc, hss, chkP hE0 (by decide) (by decide) (by decide) (by decide) (by decide)]
    by_cases ho : 3 + ((E : Int) + 1) * 4 < (H : Int) ∧ (H : Int) ≤ 3 + ((E : Int) + 1) * 4 + 2
    · cases en
      · rw [if_neg (fun h => h.elim (fun q => q ho) (fun q => Bool.noConfusion (hne.1 q))), if_neg (fun h => Bool.noConfusion h.1), if_neg (by decide), if_pos (by decide), if_pos ⟨ho, rfl⟩]
      · rw [if_pos (.inr (hne.2 rfl)), if_neg (fun h => Bool.noConfusion h.2)]
    · rw [if_pos (.inl ho), if_neg (fun h => ho h.1)]
  have hp1 : ((b11, Obj.cells (u8s at8).toArray 32 (0, 0)) :: ((b10, Obj.cells (ceC c (.slice oa c.os.length oc) (.slice sa c.sg.length sc)).toArray 36 (0, 0)) :: (KW y.b y.bb y.cap y.rest y.x ++ (bl ++ y.pool))) : Hp).Perm ((KW y.b y.bb y.cap y.rest y.x ++ (bl ++ y.pool)) ++ [(b11, Obj.cells (u8s at8).toArray 32 (0, 0)), (b10, Obj.cells (ceC c (.slice oa c.os.length oc) (.slice sa c.sg.length sc)).toArray 36 (0, 0))]) := (perm_of fun f => by (simp only [List.map_append, List.map_cons, List.map_nil, List.sum_append, List.sum_cons, List.sum_nil] <;> omega))
  have hT := fun w' h1 h2 h3 h4 => TakeK_calls y.x hxl hHL hf (by decide) (by decide) oa oc sa sc (H : Int) at8 hatl y.b y.bb y.cap y.rest w' y.hcap (ap := bl ++ y.pool) (fun w hw => ⟨y.hok w hw.right, hk' w hw.left⟩) h1 h2 h3 h4
  rw [← hv] at hT
  refine Run.op1 (OpTo.callT Tryz.func9 hp1 (fun w' hm => hT w' (hasFs hp1 hm).1 (hasFs hp1 hm).2 (hK.fr hm.fr (by simp)) (freshC hK (by simp) (hm.perm hp1) (fun p hp => List.mem_append_left _ hp)))) ?_
  rintro ⟨⟨z, bz⟩, hzd, hzk⟩
  dsimp only at hzd hzk ⊢
  rw [hxd] at hzd
  refine x_ ?_
  have hzl := rcF_ln (z := z) (n := 50) (p := z.d.pend) (cc := z.d.c)
  have hzS : z.ln := by
    by_cases h0 : v = 0
    · rw [if_pos h0] at hzd
      exact (rcF_ln hzd (by omega) (by omega)).1
    · rw [if_neg h0] at hzd
      exact (rcF_ln hzd (Nat.zero_le _) (Nat.zero_le _)).1
  have hpd : z.d.pend = decide (v = 0) := by
    by_cases h0 : v = 0
    · rw [hzd, if_pos h0, decide_eq_true h0]
    · rw [hzd, if_neg h0, decide_eq_false h0]
  have hSd := fun w' h1 h2 => SideK_calls z hzS y.b y.bb y.cap y.rest w' h1 h2
  clear hv hzl
  have hcs : ((H : Int) > 3 + 4 * ((E : Int) + 1) ∧ (H : Int) ≤ 3 + 4 * ((E : Int) + 1) + 2 ∧ en = false ∧ v = 0) ∨ ((H : Int) > 3 + 4 * ((E : Int) + 1) ∧ (H : Int) ≤ 3 + 4 * ((E : Int) + 1) + 2 ∧ en = true ∧ v = 9) ∨ ((H : Int) > 3 + 4 * ((E : Int) + 1) ∧ ¬ (H : Int) ≤ 3 + 4 * ((E : Int) + 1) + 2 ∧ v = 9) ∨ (¬ (H : Int) > 3 + 4 * ((E : Int) + 1) ∧ v = 9) := by
    by_cases ho : 3 + ((E : Int) + 1) * 4 < (H : Int) ∧ (H : Int) ≤ 3 + ((E : Int) + 1) * 4 + 2
    · cases en
      · exact .inl ⟨by omega, by omega, rfl, hv9.trans (if_pos ⟨ho, rfl⟩)⟩
      · exact .inr (.inl ⟨by omega, by omega, rfl, hv9.trans (if_neg fun h => Bool.noConfusion h.2)⟩)
    · have h9 : v = 9 := hv9.trans (if_neg fun h => ho h.1)
      omega
  rcases hcs with ⟨g1, g2, rfl, rfl⟩ | ⟨g1, g2, rfl, rfl⟩ | ⟨g1, g2, rfl⟩ | ⟨g1, rfl⟩
  all_goals
    refine x_ ?_
    refine Run.op1 (OpTo.callD Tryz.func12 (fun w' hm => hSd w' (fun p hp => hm.has p (List.mem_append_left _ (List.mem_append_left _ hp))) (hzk w' (fun p hp => hm.has p (List.mem_append_left _ (List.mem_append_right _ hp)))))) ?_
    rintro ⟨⟨y2, bq⟩, hd2, hk2⟩
    dsimp only at hd2 hk2 ⊢
    have r19 : rdAt ti4 y2.c.toArray 19 = some (.bool y2.d.pend) := kd_r19 _ _ _ _ _
    rw [hd2, hpd] at r19
    have hy42 : y2.c.toArray.size = 42 := by rw [List.size_toArray, y2.len]
    have hy1 := y2.one
    generalize y2.c = Y2 at r19 hy42 hy1 ⊢
    refine x_ ?_
    refine Run.nw nal ?_
    intro b16
    refine x_ ?_
    refine Run.op1 (osa (arr := ti45.zero.cells) Y2.toArray hy1 (hs := by exact hy42)) (fun _ => ?_)
    refine x_ ?_
    exact RQ.ret1 rfl (Res.tmp rfl) fun w' hm => ⟨rfl, hm.fr⟩
end Go.Proofs.YtkkfaffehbjdgaaGreatDoor
end
section
/- From a walk to what the row asks: the arguments read as before, nothing old has turned. -/
namespace Go.Vc
open Go Go.ChangeShapes Go.WideShapes Go.ChangeAt Go.RowKit

/-- No slice's elements are nothing at all. -/
def slicesFull (P : Program) : Bool := (List.range P.types.size).all fun t => match P.underlying t with
  | some (.slice e) => Nat.blt 0 (P.cellsOf e)
  | _ => true
theorem slicesFull_spec {P : Program} (h : slicesFull P = true) {t e : TypeId} (ht : t < P.types.size) (hu : P.underlying t = some (.slice e)) : 0 < P.cellsOf e := by
  have := List.all_eq_true.1 h t (List.mem_range.2 ht)
  simp only [hu] at this
  simpa [Nat.blt_eq] using this

section
variable {H : Type} {enc : TypeId × Value → H} {P : Program}

theorem sameAt_below {w w' : World} (h : Below w.heap.size w w') {p : MemPlace} (hp : p.block < w.heap.size) : w.sameAt w' p := by
  cases p with
  | cell b o => 
    have := h.block b hp
    simp [World.sameAt, World.cell?, this]
  | map b =>
    have := h.block b hp
    simp [World.sameAt, this]

theorem trodAll_stay (hl : laidOutB P = true) (hm : mapsRowed P = true) (hsl : slicesFull P = true) {w w' : World} (hb : Below w.heap.size w w') {sp : Nat → Bool} :
    ∀ (ts : List TypeId) (vs : List Value) (ds : List (DataW H)) (ps : List MemPlace), (∀ t ∈ ts, t < P.types.size) → DataW.TrodAll enc P w 0 (fun _ => true) true ts vs ds ps →
      (∀ p ∈ ps, p.block < w.heap.size) → (∀ p ∈ ps, sp p.block = true) → DataW.TrodAll enc P w' 0 sp true ts vs ds ps
  | [], vs, ds, ps, _, h, _, _ => by
    obtain ⟨rfl, rfl, rfl⟩ := trodAll_nil h
    exact trodAll_mk0
  | t :: ts, vs, ds, ps, ht, h, hlt, hs => by
    obtain ⟨v, vs', d, ds', p, q, rfl, rfl, rfl, ⟨n, h1⟩, h2⟩ := trodAll_cons h
    refine ⟨p, q, ⟨n, ?_⟩, trodAll_stay hl hm hsl hb ts vs' ds' q (fun t ht' => ht t (List.mem_cons_of_mem _ ht')) h2 (fun x hx => hlt x (List.mem_append_right _ hx)) (fun x hx => hs x (List.mem_append_right _ hx)), rfl⟩
    exact DataW.trod_stays (kids_rows hl hm) (fun h1 h2 => slicesFull_spec hsl h1 h2) (fun h => by cases h) (ht t List.mem_cons_self) h1
      (fun x hx => sameAt_below hb (hlt x (List.mem_append_left _ hx))) (fun x hx => hs x (List.mem_append_left _ hx))

/-- What a law's row asks behind a call that returns true and turns nothing old. -/
theorem post_true {f : Func} {s : ChangeSpec} {apart fresh handsOn : Bool} {W W' : World} {args : Array Value} {ds gs : List (DataW H)} {before : List MemPlace} {tb : TypeId}
    (hl : laidOutB P = true) (hm : mapsRowed P = true) (hsl : slicesFull P = true) (hts : f.params.toList.all (fun t => Nat.blt t P.types.size) = true) (hrt : f.resultTypes = #[tb]) (hub : P.underlying tb = some .bool)
    (hW : DataW.Whole enc P f.params.toList s.vars apart W args.toList ds gs before) (hv : s.vars = []) (hsr : (s.fn H ds).results = [.lit (.bool true)]) (hsa : (s.fn H ds).args = ds) (hsv : (s.fn H ds).vars = [])
    (hf : Fr [] W W') : s.post enc P f apart fresh handsOn false W args (.bool true) W' := by
  have hb := hf.below
  have hlt := hW.lt
  have hW' := hW
  obtain ⟨p, q, hA, hV, rfl, hz, hn⟩ := hW'
  rw [hv] at hV
  obtain ⟨rfl, rfl⟩ := trodVars_none hV
  have hts' : ∀ t ∈ f.params.toList, t < P.types.size := fun t ht => by simpa [Nat.blt_eq] using List.all_eq_true.1 hts t ht
  have hag : ∀ sp : Nat → Bool, (∀ x ∈ p ++ [], sp x.block = true) → DataW.TrodAll enc P W' 0 sp true f.params.toList args.toList ds p := fun sp hsp =>
    trodAll_stay hl hm hsl hb _ _ _ _ hts' hA (fun x hx => hlt x (List.mem_append_left _ hx)) (fun x hx => hsp x (List.mem_append_left _ hx))
  have hres : ∀ (b : Nat) (sp : Nat → Bool) (hd : Bool), DataW.TrodAll enc P W' b sp hd f.resultTypes.toList ((Value.bool true).resultList f.resultTypes.size) [.lit (.bool true)] [] := fun b sp hd => by
    rw [hrt]
    exact trodAll_cons_mk (shut_bool hub _) trodAll_mk0
  have hold : ∀ x ∈ p ++ [], (fun b => decide (b < W.heap.size)) x.block = true := fun x hx => by simpa using hlt x hx
  refine ⟨ds, [], p ++ [], [], p, [], hW, ?_, ?_, ?_, World.keptBut_mono (fun x hx => ⟨hx, ?_⟩) (hb.frame (· ∈ p ++ [])), fun h => by cases h⟩
  · rw [List.append_nil, hsr]; exact hres _ _ _
  · rw [List.append_nil, hsa]; exact hag _ hold
  · rw [List.append_nil, hsv, hv]; exact rfl
  · simpa using hx
end
end Go.Vc

/- Arguments that are bytes in arrays; what is laid. -/
namespace Go.Vc
open Go Go.Sha Go.ChangeShapes Go.WideShapes Go.ChangeAt Go.RowKit

def AllB (cs : List Value) : Prop := ∀ v ∈ cs, ∃ n : Nat, n < 256 ∧ v = .int .u8 n
theorem AllB.list : ∀ {cs : List Value}, AllB cs → ∃ l : List Nat, cs = u8s l ∧ ∀ x ∈ l, x < 256
  | [], _ => ⟨[], rfl, fun _ h => by cases h⟩
  | v :: cs, h => by
    obtain ⟨n, hn, rfl⟩ := h v List.mem_cons_self
    obtain ⟨l, rfl, hl⟩ := AllB.list (cs := cs) (fun v hv => h v (List.mem_cons_of_mem _ hv))
    exact ⟨n :: l, rfl, fun x hx => by
      rcases List.mem_cons.1 hx with rfl | hx
      · exact hn
      · exact hl x hx⟩
section
variable {H : Type} {enc : TypeId × Value → H} {P : Program}
theorem params_plain {fn : Func} (h : fn.params.all (fun t => !P.wantsStandIn t) = true) (j : Nat) (t : TypeId) (ht : fn.params[j]? = some t) : P.wantsStandIn t = false := by
  have := Array.all_eq_true_iff_forall_mem.1 h t (Array.mem_of_getElem? ht)
  simpa using this
end
end Go.Vc

/- Arguments that are slices of bytes, slices of such, strings. -/
namespace Go.Vc
open Go Go.Sha Go.ChangeShapes Go.WideShapes Go.ChangeAt Go.RowKit Go.Deep
section
variable {H : Type} {enc : TypeId × Value → H} {P : Program}

/-- One cell that reads as a byte. -/
theorem byte_cell {w : World} {base n e : Nat} {sp : Nat → Bool} {held : Bool} {v : Value} {x : DataW H × List MemPlace} (he : P.underlying e = some (.int .u8)) (h : DataW.trod enc P w base sp held n e [v] = some x) : ∃ k : Nat, k < 256 ∧ v = .int .u8 k := by
  obtain ⟨z, hcs, _, hw⟩ := DataW.trod_int he h
  have hb := bounds_u8 hw
  cases hcs
  exact ⟨z.toNat, by omega, by rw [Int.toNat_of_nonneg hb.1]⟩

/-- A slice value that reads as data reads as bytes. -/
theorem slice_cell {w : World} {t e n : Nat} {held : Bool} {v : Value} {x : DataW H × List MemPlace} (hu : P.underlying t = some (.slice e)) (he : P.underlying e = some (.int .u8)) (hc : P.cellsOf e = 1)
    (h : DataW.trod enc P w 0 (fun _ => true) held n t [v] = some x) : ∃ (m : Nat) (l : List Nat), SrcW w 1 v m (u8s l) ∧ ∀ y ∈ l, y < 256 := by
  rcases open_slice1 hu hc h with ⟨h0, _⟩ | ⟨a, len, cap, m, n', V, D, Pl, h0, _, hl, _, hm, _, hx⟩
  · cases h0
    exact ⟨0, [], .nil, fun _ h => by cases h⟩
  · cases h0
    rw [if_pos rfl] at hm
    subst hm
    have hB : AllB ((List.range len).map V) := by
      intro v hv
      simp only [List.mem_map, List.mem_range] at hv
      obtain ⟨i, hi, rfl⟩ := hv
      exact byte_cell he (hx i (by omega)).2
    obtain ⟨l, hl', hb⟩ := hB.list
    have hlen : (u8s l).length = len := by rw [← hl']; simp
    refine ⟨len, l, .at a len _ (u8s l) (by rw [hlen, Nat.mul_one]) hl (fun j u hj => ?_), hb⟩
    have hjl : j < len := by rw [← hlen]; exact (List.getElem?_eq_some_iff.1 hj).1
    rw [← hl', List.getElem?_map, List.getElem?_range hjl] at hj
    cases hj
    exact (hx j (by omega)).1
/-- A slice of bytes as argument. -/
theorem slice_arg {w : World} {t e b0 : Nat} {r : Reach} {held : Bool} {v : Value} {d : DataW H} {ps : List MemPlace} (hu : P.underlying t = some (.slice e)) (he : P.underlying e = some (.int .u8)) (hc : P.cellsOf e = 1)
    (hval : Value.okWide P w r b0 t v) (h : DataW.Trod enc P w 0 (fun _ => true) held t v d ps) : ∃ (m : Nat) (l : List Nat), SrcW w 1 v m (u8s l) ∧ ∀ y ∈ l, y < 256 := by
  obtain ⟨a, len, cap, rfl⟩ := okWide_slice hu hval
  obtain ⟨n, h⟩ := h
  exact slice_cell hu he hc h
end
end Go.Vc

/- What is laid: hash.steps; closed facts of the program. -/
namespace Go.Proofs.YtkkfaffehbjdgaaGreatDoor
open Go Go.Vc Go.Sha Go.ChangeShapes Go.WideShapes Go.ChangeAt Go.RowKit

theorem kLaidOut : laidOutB Tryz.prog = true := by kernel_rfl
theorem kMaps : mapsRowed Tryz.prog = true := by kernel_rfl
theorem kSlices : slicesFull Tryz.prog = true := by kernel_rfl
theorem kOwn : ownKnob Tryz.prog.godebug = Option.none := by kernel_rfl
theorem kTab : Tryz.prog.globalNamed "drawbridge/hash.steps" = some 0 := by kernel_rfl
theorem kTabType : (Tryz.prog.globals[0]?).map (·.type) = some 161 := by kernel_rfl
theorem kCellsT : Tryz.prog.cellsOf 161 = 64 := by kernel_rfl
theorem kCellsE : Tryz.prog.cellsOf 159 = 1 := by kernel_rfl
theorem kCellsB : Tryz.prog.cellsOf 5 = 1 := by kernel_rfl

/-- What the row's list gives. -/
theorem laid_of {W : World} (h : laidMet Tryz.prog [("drawbridge/hash.steps", Rows.laid_drawbridge_hash_steps)] W) : Laid W := fun i hi => by
  have h1 : Lib.TabIs Tryz.prog W "drawbridge/hash.steps" .u32 (K.map Int.ofNat) :=
    Lib.tabIs_of_head (rest := []) kTab kTabType Tryz.underlying161 Tryz.underlying159 kCellsE kCellsT h
  have := h1.cell kTab i (by rw [List.length_map, K_len]; exact hi)
  rw [this]
  have hk : i < K.length := by rw [K_len]; exact hi
  simp [List.getD_eq_getElem?_getD, hk]

/-- A world for the witness: the table holds what its initialiser lays. -/
noncomputable def laidWorld (os : Os) : World :=
  { World.holding Tryz.prog os ⟨#[], #[], []⟩ with heap := (World.holding Tryz.prog os ⟨#[], #[], []⟩).heap.modify 0 fun
      | .cells _ t frozen => .cells (u32s K).toArray t frozen
      | o => o }
end Go.Proofs.YtkkfaffehbjdgaaGreatDoor
end
section
/- Arguments that are slices of hashes, arrays of numbers. -/
namespace Go.Vc
open Go Go.Sha Go.ChangeShapes Go.WideShapes Go.ChangeAt Go.RowKit Go.Deep
section
variable {H : Type} {enc : TypeId × Value → H} {P : Program}
end
end Go.Vc

/- Arguments that are slices of ints, of bools, and parameters. -/
namespace Go.Vc
open Go Go.Sha Go.ChangeShapes Go.WideShapes Go.ChangeAt Go.RowKit Go.Deep
section
variable {H : Type} {enc : TypeId × Value → H} {P : Program}
/-- Cells that are each of one shape. -/
theorem one_trod {α : Type} [Inhabited α] (f : α → Value) {w : World} {t e fuel : Nat} {held : Bool} {cs : List Value} {x : DataW H × List MemPlace} (hu : P.underlying t = some (.slice e)) (hc : P.cellsOf e = 1)
    (hf : ∀ n V D Pl, DataW.trod enc P w 0 (fun _ => true) held n e [V] = some (D, Pl) → ∃ z, V = f z)
    (h : DataW.trod enc P w 0 (fun _ => true) held fuel t cs = some x) : ∃ (v : Value) (l : List α), cs = [v] ∧ SrcW w 1 v l.length (l.map f) ∧ l.length ≤ 9223372036854775807 := by
  rcases open_slice1 hu hc h with ⟨rfl, _⟩ | ⟨a, len, cap, m, n', V, D, Pl, rfl, _, hlc, hml, hmm, hxd, hx⟩
  · exact ⟨_, [], rfl, .nil, Nat.zero_le _⟩
  · rw [if_pos rfl] at hmm
    subst hmm
    have hex : ∀ i, i < len → ∃ z : α, w.cell? (a.add i) = some (f z) := by
      intro i hi
      obtain ⟨h1, h2⟩ := hx i (by omega)
      obtain ⟨z, hz⟩ := hf _ _ _ _ h2
      exact ⟨z, by rw [h1, hz]⟩
    obtain ⟨F, hF⟩ := choose_lt hex
    have hlen : ((List.range len).map F).length = len := by simp
    refine ⟨_, (List.range len).map F, rfl, ?_, by rw [hlen]; simp only [maxLen] at hml; omega⟩
    rw [hlen]
    refine .at a _ _ _ (by simp) hlc fun j u hj => ?_
    rw [List.map_map, List.getElem?_map] at hj
    by_cases hjl : j < len
    · rw [List.getElem?_range hjl] at hj
      simp only [Option.map_some, Option.some.injEq, Function.comp] at hj
      rw [← hj]
      exact hF j hjl
    · rw [List.getElem?_eq_none (by simpa using hjl)] at hj
      cases hj
end
end Go.Vc
namespace Go.Proofs.YtkkfaffehbjdgaaGreatDoor
open Go Go.Vc
end Go.Proofs.YtkkfaffehbjdgaaGreatDoor
end
section
/- cert: the reference's Add, SumMoney, SumCert. -/
namespace Go.Proofs.YtkkfaffehbjdgaaGreatDoor
attribute [local irreducible] Go.Vc.Run Go.Vc.RC Go.Vc.RQ Go.Vc.DR Go.Vc.DOp Go.Vc.Knows Go.Vc.At
set_option maxHeartbeats 400000
set_option maxRecDepth 10000
open Go Go.Vc Go.Sha
set_option maxRecDepth 10000 in set_option maxHeartbeats 4000000 in
theorem RMayM_calls (a : Int) (ha : 0 ≤ a ∧ a ≤ 1125899906842624) (w : World) : Gives Tryz.prog 119 [.int .i64 a] (.bool true) w := by
  refine enter Tryz.func119 rfl (Mem.nil w []) rfl ?_
  refine x_ ?_
  exact RQ.ret1 rfl (Res.tmp rfl) fun w' hm => ⟨by rw [decide_eq_true ha.2]; rfl, hm.fr⟩
set_option maxRecDepth 10000 in set_option maxHeartbeats 4000000 in
theorem RAddM_calls (a b : Int) (ha : 0 ≤ a ∧ a ≤ 1125899906842624) (hb : 0 ≤ b ∧ b ≤ 1125899906842624) (hn : a + b ≤ 1125899906842624) (w : World) : Gives Tryz.prog 91 [.int .i64 a, .int .i64 b] (.tuple #[.int .i64 (a + b), .bool true]) w := by
  refine enter Tryz.func91 rfl (Mem.nil w []) rfl ?_
  have k1 : Knows Tryz.prog w 119 [.int .i64 a] (.bool true) := Knows.mk Tryz.func119 (fun w' _ => RMayM_calls a ha w')
  have k2 : Knows Tryz.prog w 119 [.int .i64 b] (.bool true) := Knows.mk Tryz.func119 (fun w' _ => RMayM_calls b hb w')
  refine x_ ?_
  exact RQ.ret2 rfl (Res.tmp rfl) (Res.tmp rfl) fun w' hm => ⟨rfl, hm.fr⟩
set_option maxRecDepth 10000 in set_option maxHeartbeats 4000000 in
theorem RMSum_calls (l : List Int) (hl : ∀ x ∈ l, 0 ≤ x ∧ x ≤ 100000) (hn : l.length ≤ 64) (v : Value) (w : World) (hs : SrcW w 1 v l.length (i64L l)) : Gives Tryz.prog 60 [v] (.tuple #[.int .i64 l.sum, .bool true]) w := by
  refine enter Tryz.func60 rfl (Mem.nil w []) rfl ?_
  obtain ⟨va, vc, rfl, hvc⟩ := hs.shape
  refine x_ ?_
  refine RC.up l.length (D := Unit) (fun _ _ => True) (fun k _ => [(6, .int .i64 k), (5, .bool true), (4, .int .i64 (l.take k).sum), (0, .slice va l.length vc)]) (fun _ _ => []) 0 () (Nat.zero_le _) trivial ⟨rfl, rfl, rfl, rfl, trivial⟩ (List.Sublist.refl _) ?_
  intro k _ hk _
  by_cases hk' : k < l.length
  · obtain ⟨x, hx⟩ : ∃ x, l[k]? = some x := ⟨_, List.getElem?_eq_getElem hk'⟩
    obtain ⟨ad, c', hv', hc', hcl, hr⟩ := hs.pos (by omega)
    cases hv'
    have hx1 := hl x (List.mem_of_getElem? hx)
    have hs1 := sum_le (l.take k) fun y hy => hl y (List.mem_of_mem_take hy)
    rw [List.length_take] at hs1
    have hst := sum_take hx
    generalize (l.take k).sum = s at hs1 hst ⊢
    have hcx : w.cell? (ad.add (k * 1)) = some (.int .i64 x) := by
      rw [Nat.mul_one]
      exact hr k _ (by unfold i64L; rw [List.getElem?_map, hx]; rfl)
    have kA : Knows Tryz.prog w 91 [.int .i64 s, .int .i64 x] (.tuple #[.int .i64 (s + x), .bool true]) := Knows.mk Tryz.func91 (fun w' _ => RAddM_calls s x (by omega) (by omega) (by omega) w')
    refine x_ ?_
    exact RQ.up (k + 1) () (Nat.lt_succ_self _) hk' trivial ⟨rfl, rfl, by rw [hst]; rfl, rfl, trivial⟩ (List.Sublist.refl _)
  · obtain rfl : k = l.length := by omega
    rw [List.take_length]
    refine x_ ?_
    exact RQ.ret2 rfl (Res.tmp rfl) (Res.tmp rfl) fun w' hm => ⟨rfl, hm.fr⟩
set_option maxRecDepth 10000 in set_option maxHeartbeats 4000000 in
theorem RCSum_calls (c : CeD) (hl : ∀ o ∈ c.os, 0 ≤ o.am ∧ o.am ≤ 100000) (hn : c.os.length ≤ 64) (aA : Option Addr) (cA : Nat) (vS : Value) (w : World) (ho : SrcW w 9 (.slice aA c.os.length cA) c.os.length (rws OutD.c c.os)) : Gives Tryz.prog 33 [.agg (ceC c (.slice aA c.os.length cA) vS).toArray] (.tuple #[.int .i64 (payS c), .bool true]) w := by
  refine enter Tryz.func33 rfl (Mem.nil w []) rfl ?_
  have r19 := ce_r19 c (.slice aA c.os.length cA) vS
  have h21 : (ceC c (.slice aA c.os.length cA) vS).toArray.size = 21 := by rw [List.size_toArray, ceC_len]
  generalize ceC c (.slice aA c.os.length cA) vS = F at r19 h21 ⊢
  refine z_ ?_
  refine Run.nw nbx ?_
  intro b1
  refine x_ ?_
  refine RC.up c.os.length (D := (Option Addr × Nat) × Hp) (fun k d => Own 3 1 (.slice d.1.1 k d.1.2) k (i64L ((c.os.take k).map OutD.am)) d.2) (fun k d => [(5, .int .i64 k), (4, .slice d.1.1 k d.1.2), (1, .pointer (some ⟨b1, 0, none⟩))]) (fun _ d => d.2 ++ [(b1, Obj.cells F.toArray 36 (0, 0))]) 0 ((none, 0), []) (Nat.zero_le _) Own.nil ⟨rfl, rfl, rfl, trivial⟩ (List.Sublist.refl _) ?_
  rintro k ⟨⟨wa, wc⟩, wl⟩ hk hown
  dsimp only at hown ⊢
  by_cases hk' : k < c.os.length
  · obtain ⟨o, hx⟩ : ∃ o, c.os[k]? = some o := ⟨_, List.getElem?_eq_getElem hk'⟩
    obtain ⟨ad, c', hv', hc', hcl, hr⟩ := ho.pos (by omega)
    cases hv'
    have q8 : w.cell? ((ad.add (k * 9)).add 8) = some (.int .i64 o.am) := by
      rw [add_add]
      exact hr _ _ (rws_at OutD.len hx 8 _ (at_mid (pre := u8s o.t.1) (post := []) rfl (by rw [u8s_len, o.t.2.1])))
    refine x_ ?_
    refine Run.nw (nbsk (parts := [(0, .tmp 19)]) #[.int .i64 o.am]) ?_
    intro b20
    refine Run.op1 (OpTo.append (L1 := (b20, Obj.cells #[.int .i64 o.am] 3 (0, 0)) :: [(b1, Obj.cells F.toArray 36 (0, 0))]) tabOk hown (Src.at ⟨b20, 0, none⟩ 1 1 [.int .i64 o.am] rfl (Rd.rowAll m0)) rfl rfl rfl rfl rfl rfl rfl rfl rfl (perm_of fun f => by (simp only [List.map_append, List.map_cons, List.map_nil, List.sum_append, List.sum_cons, List.sum_nil] <;> omega)) (by intro u hu; rw [List.mem_singleton] at hu; subst hu; rfl) (by unfold maxLen; omega) (by simp only [ti3]; omega)) ?_
    rintro ⟨⟨v15, l15⟩, h15⟩
    dsimp only at h15 ⊢
    obtain ⟨wa2, wc2, rfl, hwc2⟩ := h15.shape
    refine x_ ?_
    exact RQ.upP (k + 1) ((wa2, wc2), l15) (Nat.lt_succ_self _) hk' (by dsimp only; rw [List.take_add_one, hx, List.map_append]; unfold i64L at h15 ⊢; rw [List.map_append]; exact h15) ⟨rfl, rfl, rfl, trivial⟩ (L1 := (l15 ++ [(b1, Obj.cells F.toArray 36 (0, 0))]) ++ [(b20, Obj.cells #[.int .i64 o.am] 3 (0, 0))]) (perm_of fun f => by (simp only [List.map_append, List.map_cons, List.map_nil, List.sum_append, List.sum_cons, List.sum_nil] <;> omega)) (List.sublist_append_left _ _)
  · obtain rfl : k = c.os.length := by omega
    rw [List.take_length] at hown
    have hS : ∀ w', Has wl w' → Gives Tryz.prog 60 [.slice wa c.os.length wc] (.tuple #[.int .i64 (payS c), .bool true]) w' := fun w' hw => by
      have hh := hown.srcW hw
      rw [show c.os.length = (c.os.map OutD.am).length from (List.length_map _).symm] at hh ⊢
      exact RMSum_calls (c.os.map OutD.am) (fun x hx => by obtain ⟨o, ho, rfl⟩ := List.mem_map.1 hx; exact hl o ho) (by rw [List.length_map]; exact hn) _ w' hh
    refine x_ ?_
    refine Run.op1 (OpTo.cv Tryz.func60 (fun w' hm => hS w' (fun q hq => hm.has q (by repeat (first | exact List.mem_append_left _ hq | exact hq | apply List.mem_append_right | apply List.mem_cons_of_mem))))) (fun _ => ?_)
    refine x_ ?_
    exact RQ.ret2 rfl (Res.tmp rfl) (Res.tmp rfl) fun w' hm => ⟨rfl, hm.fr⟩
end Go.Proofs.YtkkfaffehbjdgaaGreatDoor
end
