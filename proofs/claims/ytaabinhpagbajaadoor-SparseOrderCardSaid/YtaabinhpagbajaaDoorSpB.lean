/- sparse: over, in, set, New. -/
import Derived.Test.YtaabinhpagbajaaDoorSpA
import Derived.Test.YtaabinhpagbajaaDoorDigZ
import Derived.Test.YtaabinhpagbajaaDoorVcS
set_option linter.unusedSimpArgs false
set_option linter.unusedVariables false
namespace Go.Vc
open Go Go.Sha
/-- A tree. -/
structure TrD (tT : TypeId) (tb mb : Nat) where
  es : List MpE
  clock : Nat
  ok : MpOk es clock
def TrD.L {tT : TypeId} {tb mb : Nat} (x : TrD tT tb mb) : Hp := [(tb, .cells #[.map (some mb)] tT (0, 0)), (mb, mpO x.es x.clock)]
/-- What a tree holds at a place. -/
def TrD.at {tT : TypeId} {tb mb : Nat} (x : TrD tT tb mb) (q j : Nat) : List Nat := mpGet q j x.es
end Go.Vc
namespace Go.Sha
theorem overH_8 {a b : List Nat} : H8 (overH a b) := by
  unfold overH
  split
  · exact H8.z
  · exact ⟨digest_len _ _, digest_lt _ _⟩
theorem nodeF_8 {F : Nat → List Nat} (h : okF F) : ∀ q j, H8 (nodeF F q j)
  | 0, j => h j
  | _ + 1, _ => overH_8
end Go.Sha
namespace Go.Proofs.YtaabinhpagbajaaDoor
attribute [local irreducible] Go.Vc.Run Go.Vc.RC Go.Vc.RQ Go.Vc.DR Go.Vc.DOp
open Go Go.Vc Go.Sha
abbrev Tr (tb mb : Nat) := TrD 57 tb mb
theorem mapTy : MapTy Tryd.prog 55 59 29 (.agg (u8s (List.replicate 8 0)).toArray) where
  hu := Tryd.underlying55
  ck := fun w em k i => run_checkKey_two Tryd.underlying59 (by decide) (by decide) Tryd.underlying3 Tryd.underlying3 rfl rfl 9998 w em k i
  ks := ⟨_, Tryd.underlying59⟩
  hk := by kernel_rfl
  hz := fun w => by
    obtain ⟨_, i, hi, _, _, hz⟩ := tabOk _ _ (show tiGet tab 29 = some _ from rfl)
    simp [zeroValue, typeInfo, hi, hz]
    rfl
set_option maxRecDepth 10000 in set_option maxHeartbeats 4000000 in
theorem over_calls (a b : List Nat) (ha : H8 a) (hb : H8 b) (w : World) (hK : Laid w) : Gives Tryd.prog 27 [.agg (u8s a).toArray, .agg (u8s b).toArray] (.agg (u8s (overH a b)).toArray) w := by
  refine enter Tryd.func27 rfl (Mem.nil w []) rfl ?_
  have ha8 := ha.1
  have hb8 := hb.1
  have sa : (u8s a).toArray.size = 8 := by rw [List.size_toArray, u8s_len, ha8]
  have sb : (u8s b).toArray.size = 8 := by rw [List.size_toArray, u8s_len, hb8]
  refine z_ ?_
  refine Run.nw nbx ?_
  intro b2
  refine Run.nw nbx ?_
  intro b3
  refine Run.nw nal ?_
  intro b4
  refine z_ ?_
  refine Run.a (vla (hv := sa)) ?_
  refine Run.op1 (OpTo.cv Tryd.func32 (fun w' _ => Zero_calls a ha8 w')) (fun _ => ?_)
  unfold overH
  by_cases h1 : a = Z8
  · have h1' : decide (a = List.replicate 8 0) = true := decide_eq_true h1
    rw [h1']
    refine z_ ?_
    refine Run.a (vla (hv := sb)) ?_
    refine Run.op1 (OpTo.cv Tryd.func32 (fun w' _ => Zero_calls b hb8 w')) (fun _ => ?_)
    by_cases h2 : b = Z8
    · have h2' : decide (b = List.replicate 8 0) = true := decide_eq_true h2
      rw [h2', if_pos ⟨h1, h2⟩]
      refine z_ ?_
      refine Run.a (vba (u8s Z8).toArray) ?_
      refine Run.op1 (osa (u8s Z8).toArray (u8s_one _)) (fun _ => ?_)
      refine z_ ?_
      exact RQ.ret1 rfl (Res.cellAll tabOk rfl rfl rfl m0 rfl) fun w' hm => ⟨rfl, hm.fr⟩
    · have h2' : decide (b = List.replicate 8 0) = false := decide_eq_false h2
      rw [h2', if_neg (fun h => h2 h.2)]
      have hd := digest_len 110 [a, b]
      have sd : (u8s (digest 110 [a, b])).toArray.size = 8 := by rw [List.size_toArray, u8s_len, hd]
      refine z_ ?_
      refine Run.a (vla (hv := sa)) ?_
      refine Run.a (vla (hv := sb)) ?_
      refine Run.op1 (OpTo.cv Tryd.func37 (fun w' hm => Two_calls 110 (by decide) a b ha8 hb8 ha.2 hb.2 w' (hK.fr hm.fr (by simp)))) (fun _ => ?_)
      refine Run.op1 (osa (u8s (digest 110 [a, b])).toArray (u8s_one _) (hs := sd)) (fun _ => ?_)
      refine z_ ?_
      exact RQ.ret1 rfl (Res.cellAll tabOk rfl rfl rfl m0 sd) fun w' hm => ⟨rfl, hm.fr⟩
  · have h1' : decide (a = List.replicate 8 0) = false := decide_eq_false h1
    rw [h1', if_neg (fun h => h1 h.1)]
    have hd := digest_len 110 [a, b]
    have sd : (u8s (digest 110 [a, b])).toArray.size = 8 := by rw [List.size_toArray, u8s_len, hd]
    refine z_ ?_
    refine Run.a (vla (hv := sa)) ?_
    refine Run.a (vla (hv := sb)) ?_
    refine Run.op1 (OpTo.cv Tryd.func37 (fun w' hm => Two_calls 110 (by decide) a b ha8 hb8 ha.2 hb.2 w' (hK.fr hm.fr (by simp)))) (fun _ => ?_)
    refine Run.op1 (osa (u8s (digest 110 [a, b])).toArray (u8s_one _) (hs := sd)) (fun _ => ?_)
    refine z_ ?_
    exact RQ.ret1 rfl (Res.cellAll tabOk rfl rfl rfl m0 sd) fun w' hm => ⟨rfl, hm.fr⟩
set_option maxRecDepth 10000 in set_option maxHeartbeats 4000000 in
theorem in_calls (i : Int) (w : World) : Gives Tryd.prog 25 [.int .i64 i] (.bool (decide (0 ≤ i ∧ i < 65536))) w := by
  refine enter Tryd.func25 rfl (Mem.nil w []) rfl ?_
  by_cases h0 : 0 ≤ i
  · refine z_ ?_
    exact RQ.ret1 rfl (Res.tmp rfl) fun w' hm => ⟨by simp only [h0, true_and]; rfl, hm.fr⟩
  · refine z_ ?_
    exact RQ.ret1 rfl (Res.tmp rfl) fun w' hm => ⟨by simp only [h0, false_and, decide_false]; rfl, hm.fr⟩
end Go.Proofs.YtaabinhpagbajaaDoor
