/- wire: the reader's Bytes and Hash, short. -/
import Derived.Test.YtgnjdpaenojfhaaWrJ
set_option linter.unusedSimpArgs false
set_option linter.unusedVariables false
namespace Go.Proofs.Ytgnjdpaenojfhaa
attribute [local irreducible] Go.Vc.Run Go.Vc.RC Go.Vc.RQ Go.Vc.DR Go.Vc.DOp
open Go Go.Vc Go.Sha
theorem RBytes_none (rb n c k : Nat) (a : Option Addr) (hn : n ≤ 1000000) (hk : k ≤ n) (hm : n - k < 4) (w : World) (hs : w.heap[rb]? = some (.cells #[.slice a n c, .int .i64 k] 61 (0, 0))) :
    Calls Try.prog 17 #[.pointer (some ⟨rb, 0, none⟩)] w fun e w' => e = .panicked shortP ∧ Fr [] w w' := by
  refine enter (vs := [.pointer (some ⟨rb, 0, none⟩)]) Try.func17 rfl (Mem.nil w []) rfl ?_
  have hc1 : w.cell? ⟨rb, 1, none⟩ = some (.int .i64 k) := by rw [cell_of_row w rb 1 _ _ _ hs]; rfl
  refine z_ ?_
  refine Run.a (vlo hc1) ?_
  refine z_ ?_
  refine Run.op1 (OpTo.callP (Y := Empty) (Z := Unit) (V := fun y => y.elim) (L' := fun y => y.elim) (C := fun _ => shortP) (Lp := fun _ => []) Try.func18 (fun w' hm' => (RNum_short rb n c k 4 a hn hk (by decide) hm w' (hm'.old hs)).mono ?_) (fun _ => ?_)) (fun y => y.elim)
  · rintro e w'' ⟨rfl, hf⟩
    exact .inr ⟨(), rfl, hm'.ext hf⟩
  · repeat first | refine RQ.thenPanic ?_ | refine RQ.blockPanic ?_
    exact RQ.panic fun w' hm => ⟨rfl, hm.fr⟩
theorem RBytes_over (rb n k m : Nat) (ad : Addr) (hrb : ad.block ≠ rb) (hn : n ≤ 1000000) (hk : k + 4 ≤ n) (hov : n < k + 4 + m) (l4 : List Nat) (h4 : l4.length = 4) (hb4 : ∀ x ∈ l4, x < 256) (hm : num8 l4 = m) (w : World) (hs : w.heap[rb]? = some (.cells #[.slice (some ad) n n, .int .i64 k] 61 (0, 0)))
    (hr4 : ∀ j u, (u8s l4)[j]? = some u → w.cell? (ad.add (k + j)) = some u) :
    Calls Try.prog 17 #[.pointer (some ⟨rb, 0, none⟩)] w fun e w' => e = .panicked shortP ∧ Fr [rb] w w' := by
  have hL : Has [(rb, Obj.cells #[Value.slice (some ad) n n, .int .i64 k] 61 (0, 0))] w := fun p hp => by rw [List.mem_singleton] at hp; subst hp; exact hs
  refine enter (vs := [.pointer (some ⟨rb, 0, none⟩)]) Try.func17 rfl (Mem.init (S0 := [rb]) hL (fun p hp => by rw [List.mem_singleton] at hp; subst hp; exact List.mem_singleton.2 rfl) (by simp)) rfl ?_
  have hz : ([(rb, Obj.cells #[Value.slice (some ad) n n, .int .i64 k] 61 (0, 0))] : Hp).Perm ([(rb, Obj.cells #[Value.slice (some ad) n n, .int .i64 k] 61 (0, 0))] ++ []) := List.Perm.refl _
  have hS : ∀ j, (ad.add j).block ∉ [rb] := by
    intro j h
    have h' := List.mem_singleton.1 h
    exact hrb ((show (ad.add j).block = ad.block by first | rfl | (unfold Addr.add; split <;> rfl)).symm.trans h')
  refine z_ ?_
  refine Run.op1 (OpTo.callT Try.func18 hz (fun w' hm' => RNum_ok rb n k 4 ad hrb hn (by decide) (by omega) l4 h4 hb4 w' (hm'.has _ m0) (fun j u hj => hm'.fr.cell (hS _) (hr4 j u hj)))) ?_
  intro _
  rw [hm]
  refine z_ ?_
  refine Run.op1 (OpTo.cv Try.func15 (fun w' hm' => RLeft_calls rb n n (k + 4) (some ad) hn (by omega) w' (hm'.has _ m0))) (fun _ => ?_)
  refine z_ ?_
  refine Run.op1 (os1 #[Value.slice (some ad) n n, .int .i64 k]) (fun _ => ?_)
  refine z_ ?_
  refine Run.a (vbs #[]) ?_
  refine Run.a (Val.mkI tabOk rfl rfl rfl rfl) ?_
  refine Run.panic (v := .agg #[]) (pt := 58) ?_
  repeat first | refine RQ.thenPanic ?_ | refine RQ.blockPanic ?_
  exact RQ.panic fun w' hm => ⟨rfl, hm.fr⟩
end Go.Proofs.Ytgnjdpaenojfhaa
