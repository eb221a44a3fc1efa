/- registry's law: awake. -/
import Derived.Test.YtnhnihkpacibgaaRgK
import Derived.Test.YtnhnihkpacibgaaQuG
set_option linter.unusedSimpArgs false
set_option linter.unusedVariables false
namespace Go.Vc
open Go Go.Sha
/-- A state without records. -/
def stNil (tS tR : TypeId) (sb : Nat) (pool : Hp) : StO tS tR sb pool := ⟨.slice none 0 0, [], [], Own.nil, by simp, Nat.zero_le _, fun s hs => (by cases hs), fun _ _ s hs => (by cases hs)⟩
theorem one_of {tS tR : TypeId} {sb : Nat} {pool : Hp} {st : StO tS tR sb pool} {r : Rc} (h : st.rs = [r]) : ∃ x, st.l = [x] ∧ x.r = r := by
  unfold StO.rs at h
  match hl : st.l with
  | [x] => rw [hl] at h; exact ⟨x, rfl, by simpa using h⟩
  | [] => rw [hl] at h; cases h
  | _ :: _ :: _ => rw [hl] at h; simp at h
end Go.Vc
namespace Go.Sha
theorem certs_ok (n : Nat) : HL (certs n) := certs_HL n
def rcA : Rc := rcNew 4 2 1 (certs 2) 3
end Go.Sha
namespace Go.Proofs.Ytnhnihkpacibgaa
attribute [local irreducible] Go.Vc.Run Go.Vc.RC Go.Vc.RQ Go.Vc.DR Go.Vc.DOp
open Go Go.Vc Go.Sha

set_option maxRecDepth 10000 in set_option maxHeartbeats 4000000 in
theorem rg_awake_calls (w : World) : Gives Try.prog 9 [] (.bool true) w := by
  refine enter Try.func9 rfl (Mem.nil w []) rfl ?_
  refine z_ ?_
  refine Run.op1 (OpTo.callNew Try.func10 rfl rfl rfl rfl rfl rfl (fun w' _ => RNew_calls w')) ?_
  intro b
  refine z_ ?_
  refine Run.op1 (OpTo.callMkP Try.func12 rfl rfl rfl rfl rfl rfl (fun w' _ => Made_calls 2 1 w')) ?_
  rintro ⟨⟨kv, kb⟩, hown⟩
  dsimp only at hown ⊢
  have hC := fun w' h1 h2 => Create_calls (sb := b) (pool := []) (stNil _ _ b []) (ln := 4) (wd := 2) (nd := 1) (ks := certs 2) (certs_HL 2) (by rw [certs_len]; decide) (kv := kv) hown.one (ap := kb) (fun w hw => hown.srcW hw) 3 w' h1 h2
  have e1 : createR (stNil 76 44 b []).rs (mayP 4 2 1 (certs 2)) (rcNew 4 2 1 (certs 2) 3) = ([rcA], 0, 0) := by
    rw [may_certs (by decide) (by decide) (by decide) (by decide)]
    exact createR_ok _ (show (0 : Nat) < 8 from by decide)
  simp only [e1] at hC
  have hp1 : (kb ++ [(b, Obj.cells #[.slice none 0 0] 76 (0, 0))]).Perm (((stNil 76 44 b []).L ++ kb) ++ []) := by unfold StO.L stNil; exact (perm_of fun f => by (simp only [List.map_append, List.map_cons, List.map_nil, List.sum_append, List.sum_cons, List.sum_nil] <;> omega))
  refine Run.op1 (OpTo.callT Try.func11 hp1 (fun w' hm => hC w' (fun p hp => (hm.perm hp1).has p (List.mem_append_left _ hp)) (by have := (hm.perm hp1).nd; rw [List.append_nil] at this; exact this))) ?_
  rintro ⟨⟨np, st1⟩, hrs1⟩
  dsimp only at hrs1 ⊢
  rw [e1] at hrs1
  refine z_ ?_
  refine Run.a (vba (u8s [1, 0, 0, 0, 0, 0, 0, 0]).toArray) ?_
  refine Run.a (vbs (fwdC 0 1 [1, 0, 0, 0, 0, 0, 0, 0] 5).toArray) ?_
  have hF := fun w' h1 h2 => Forward_calls st1 (by rw [hrs1]; intro r hr; rw [List.mem_singleton] at hr; subst hr; exact ⟨Int.le_refl _, Int.le_refl _⟩) 0 1 5 (by decide) [1, 0, 0, 0, 0, 0, 0, 0] rfl w' h1 h2
  have e2 : fwdR st1.rs 0 5 = ([rcA.plus 5], 0) := by
    rw [hrs1]
    exact fwdR_ok (i := 0) (r := rcA) (a := 5) rfl rfl (by decide)
  simp only [e2] at hF
  have hp2 : (st1.L ++ (np ++ kb) ++ []).Perm (st1.L ++ (np ++ kb)) := (perm_of fun f => by (simp only [List.map_append, List.map_cons, List.map_nil, List.sum_append, List.sum_cons, List.sum_nil] <;> omega))
  refine Run.op1 (OpTo.callT Try.func13 hp2 (fun w' hm => hF w' (fun p hp => (hm.perm hp2).has p (List.mem_append_left _ hp)) (by have := (hm.perm hp2).nd; rw [List.map_append] at this; exact (List.nodup_append.1 this).1))) ?_
  rintro ⟨st2, hrs2⟩
  dsimp only at hrs2 ⊢
  rw [e2] at hrs2
  obtain ⟨x, hxl, hxr⟩ := one_of hrs2
  have hS : ∀ {w' : World} {L1 : Hp}, Mem w [] (L1 ++ (st2.L ++ (np ++ kb))) w' → StW 76 w' b st2.v st2.l := fun hm => st2.w (fun p hp => hm.has p (List.mem_append_right _ (List.mem_append_left _ hp))) (fun p hp => hm.has p (List.mem_append_right _ (List.mem_append_right _ (by rw [List.append_nil] at hp; exact List.mem_append_left _ hp))))
  have hk2 := st2.hk x (by rw [hxl]; exact List.mem_singleton.2 rfl)
  refine z_ ?_
  refine Run.op1 (OpTo.callD Try.func14 (fun w' hm => Side_calls st2.h8 b st2.v w' (hS (L1 := []) hm) (i := 0) (s := x) (by rw [hxl]; rfl) hk2.1 hk2.2)) ?_
  rintro ⟨⟨s2, bl⟩, hr2, hk3⟩
  dsimp only at hr2 hk3 ⊢
  have hl2 := s2.len
  refine z_ ?_
  refine Run.nw nal ?_
  intro b5
  refine Run.op1 (osa s2.c.toArray s2.one (hs := hl2)) (fun _ => ?_)
  have f1 : s2.r = rcA.plus 5 := hr2.trans hxr
  obtain ⟨r2, kv2, uv2, o1, o2⟩ := s2
  dsimp only at f1
  subst f1
  refine z_ ?_
  have e3 : totR (st2.l.map SX.r) = 5 := by
    show totR st2.rs = 5
    rw [hrs2]; rfl
  have hT := fun w' hs' => Total_calls st2.h8 (by show ∀ r ∈ st2.rs, _; rw [hrs2]; intro r hr; rw [List.mem_singleton] at hr; subst hr; decide) (by rw [e3]; decide) b st2.v w' hs'
  rw [e3] at hT
  refine Run.op1 (OpTo.cv Try.func15 (fun w' hm => hT w' (hS (L1 := (b5, _) :: bl) hm))) (fun _ => ?_)
  refine z_ ?_
  exact RQ.ret1 rfl (Res.tmp rfl) fun w' hm => ⟨rfl, hm.fr⟩
end Go.Proofs.Ytnhnihkpacibgaa
