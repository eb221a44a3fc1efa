/- wire: the reader's Bytes. -/
import Derived.Test.YtgnjdpaenojfhaaWrI
set_option linter.unusedSimpArgs false
set_option linter.unusedVariables false
namespace Go.Proofs.Ytgnjdpaenojfhaa
attribute [local irreducible] Go.Vc.Run Go.Vc.RC Go.Vc.RQ Go.Vc.DR Go.Vc.DOp
open Go Go.Vc Go.Sha
theorem RBytes_ok (rb n k m : Nat) (ad : Addr) (hrb : ad.block ≠ rb) (hn : n ≤ 1000000) (hk : k + 4 + m ≤ n) (l4 l : List Nat) (h4 : l4.length = 4) (hb4 : ∀ x ∈ l4, x < 256) (hm : num8 l4 = m) (hl : l.length = m) (w : World) (hs : w.heap[rb]? = some (.cells #[.slice (some ad) n n, .int .i64 k] 61 (0, 0)))
    (hr4 : ∀ j u, (u8s l4)[j]? = some u → w.cell? (ad.add (k + j)) = some u) (hr : ∀ j u, (u8s l)[j]? = some u → w.cell? (ad.add (k + 4 + j)) = some u) :
    Turns Try.prog 17 [.pointer (some ⟨rb, 0, none⟩)] w [(rb, Obj.cells #[Value.slice (some ad) n n, .int .i64 k] 61 (0, 0))] (Y := {p : Value × Hp // Own 5 1 p.1 m (u8s l) p.2}) (fun y => y.1.1) (fun y => (rb, Obj.cells #[Value.slice (some ad) n n, .int .i64 ((k + 4 + m : Nat) : Int)] 61 (0, 0)) :: y.1.2) := by
  have hL : Has [(rb, Obj.cells #[Value.slice (some ad) n n, .int .i64 k] 61 (0, 0))] w := fun p hp => by rw [List.mem_singleton] at hp; subst hp; exact hs
  refine enter Try.func17 rfl (Mem.init (S0 := ([(rb, Obj.cells #[Value.slice (some ad) n n, .int .i64 k] 61 (0, 0))] : Hp).map (·.1)) hL (fun p hp => List.mem_map_of_mem hp) (by simp)) rfl ?_
  have hz : ([(rb, Obj.cells #[Value.slice (some ad) n n, .int .i64 k] 61 (0, 0))] : Hp).Perm ([(rb, Obj.cells #[Value.slice (some ad) n n, .int .i64 k] 61 (0, 0))] ++ []) := List.Perm.refl _
  have hS : ∀ j, (ad.add j).block ∉ ([(rb, Obj.cells #[Value.slice (some ad) n n, .int .i64 k] 61 (0, 0))] : Hp).map (·.1) := by
    intro j h
    have h' := List.mem_singleton.1 h
    exact hrb ((show (ad.add j).block = ad.block by first | rfl | (unfold Addr.add; split <;> rfl)).symm.trans h')
  refine z_ ?_
  refine Run.op1 (OpTo.callT Try.func18 hz (fun w' hm' => RNum_ok rb n k 4 ad hrb hn (by decide) (by omega) l4 h4 hb4 w' (hm'.has _ m0) (fun j u hj => hm'.fr.cell (hS _) (hr4 j u hj)))) ?_
  intro _
  rw [hm]
  refine z_ ?_
  refine Run.op1 (OpTo.cv Try.func15 (fun w' hm' => RLeft_calls rb n n (k + 4) (some ad) hn (by omega) w' (hm'.has _ m0))) (fun _ => ?_)
  refine z_ ?_
  have hz2 : ([(rb, Obj.cells #[Value.slice (some ad) n n, .int .i64 ((k + 4 : Nat) : Int)] 61 (0, 0))] ++ [] : Hp).Perm ([(rb, Obj.cells #[Value.slice (some ad) n n, .int .i64 ((k + 4 : Nat) : Int)] 61 (0, 0))] ++ []) := List.Perm.refl _
  refine Run.op1 (OpTo.callT Try.func31 hz2 (fun w' hm' => take_ok rb n (k + 4) m ad hn hk w' (hm'.has _ m0))) ?_
  intro _
  refine Run.op1 (OpTo.callMk Try.func32 rfl rfl rfl rfl rfl rfl (fun w' hm' => Clone_calls _ m l w' (SrcW.at _ m _ (u8s l) (by rw [u8s_len, hl, Nat.mul_one]) (by omega) (fun j u hj => ?_)) (by omega))) ?_
  · have hjl := (List.getElem?_eq_some_iff.1 hj).1
    rw [u8s_len, hl] at hjl
    rw [if_neg (by omega), Nat.mul_one, add_add]
    exact hm'.fr.cell (hS _) (hr j u hj)
  rintro ⟨⟨v7, bl7⟩, hown⟩
  dsimp only at hown ⊢
  refine z_ ?_
  exact RQ.ret1 rfl (Res.tmp rfl) fun w' hm => Turns.of (Y := {p : Value × Hp // Own 5 1 p.1 m (u8s l) p.2}) (V := fun y => y.1.1) (L' := fun y => (rb, Obj.cells #[Value.slice (some ad) n n, .int .i64 ((k + 4 + m : Nat) : Int)] 61 (0, 0)) :: y.1.2) (Lst := [(rb, Obj.cells #[Value.slice (some ad) n n, .int .i64 k] 61 (0, 0))]) ⟨(v7, bl7), hown⟩ hm (Lr := []) (perm_of fun f => by (simp only [List.map_append, List.map_cons, List.map_nil, List.sum_append, List.sum_cons, List.sum_nil] <;> omega))
end Go.Proofs.Ytgnjdpaenojfhaa
