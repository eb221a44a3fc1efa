/- wire: the reader's Hash. -/
import Derived.Test.YtgnjdpaenojfhaaWrH
set_option linter.unusedSimpArgs false
set_option linter.unusedVariables false
namespace Go.Vc
open Go
theorem Val.ptrNe2 {P : Program} {n : Nat} {w0 : World} {S0 : List Nat} {E : Env} {L : Hp} {o : Oper} {T : List (Nat × TI)} {t : Nat} {ti : TI} (hT : TabOk P T) {x y : Operand} {a : Addr} {el t2 : Nat} (ho : o.op = .binOp .neq t x y t2) (ht : tiGet T t = some ti) (hd : ti.desc = .pointer el) (hx : lk E x = some (.pointer (some a))) (hy : lk E y = some (.pointer none)) :
    Val P n w0 S0 E L o (.bool true) := by
  intro ac w hs _
  have h2 := (hT _ _ ht).1
  rw [hd] at h2
  have h3 : P.underlying t = some (.pointer (P.pointee t)) := by rw [h2]; simp [Program.pointee, h2]
  have hg : (eqGuard .neq t x y (.pointer (some a)) (.pointer none)).run P w = .ok () w := by simp [eqGuard]
  simp [execOp, ho, hs.eval hx, hs.eval hy, hg, run_neq_pointer_nil w t (some a) h3]
end Go.Vc
namespace Go.Proofs.Ytgnjdpaenojfhaa
attribute [local irreducible] Go.Vc.Run Go.Vc.RC Go.Vc.RQ Go.Vc.DR Go.Vc.DOp
open Go Go.Vc Go.Sha
theorem RHash_ok (rb n k : Nat) (ad : Addr) (hrb : ad.block ≠ rb) (hn : n ≤ 1000000) (hk : k + 8 ≤ n) (l : List Nat) (hl : l.length = 8) (w : World) (hs : w.heap[rb]? = some (.cells #[.slice (some ad) n n, .int .i64 k] 61 (0, 0)))
    (hr : ∀ j u, (u8s l)[j]? = some u → w.cell? (ad.add (k + j)) = some u) :
    Turns Try.prog 16 [.pointer (some ⟨rb, 0, none⟩)] w [(rb, Obj.cells #[Value.slice (some ad) n n, .int .i64 k] 61 (0, 0))] (Y := Unit) (fun _ => .agg (u8s l).toArray) (fun _ => [(rb, Obj.cells #[Value.slice (some ad) n n, .int .i64 ((k + 8 : Nat) : Int)] 61 (0, 0))]) := by
  have hL : Has [(rb, Obj.cells #[Value.slice (some ad) n n, .int .i64 k] 61 (0, 0))] w := fun p hp => by rw [List.mem_singleton] at hp; subst hp; exact hs
  refine enter Try.func16 rfl (Mem.init (S0 := ([(rb, Obj.cells #[Value.slice (some ad) n n, .int .i64 k] 61 (0, 0))] : Hp).map (·.1)) hL (fun p hp => List.mem_map_of_mem hp) (by simp)) rfl ?_
  refine z_ ?_
  refine Run.nw nal ?_
  intro b2
  refine z_ ?_
  refine Run.nw nal ?_
  intro b3
  refine z_ ?_
  refine Run.a (Val.ptrNe2 tabOk rfl rfl rfl rfl rfl) ?_
  refine z_ ?_
  (repeat refine RC.seq ?_); refine RC.draw ([(b3, Obj.cells (u8s [0, 0, 0, 0, 0, 0, 0, 0]).toArray 29 (0, 0)), (b2, Obj.cells (u8s [0, 0, 0, 0, 0, 0, 0, 0]).toArray 29 (0, 0))]) mixed (N := 4) rfl ?_
  refine DR.t 0 rfl (Val.sliceA tabOk rfl rfl rfl rfl rfl) ?_
  refine dt 1 ?_
  have hz : ([(b3, Obj.cells (u8s [0, 0, 0, 0, 0, 0, 0, 0]).toArray 29 (0, 0)), (b2, Obj.cells (u8s [0, 0, 0, 0, 0, 0, 0, 0]).toArray 29 (0, 0)), (rb, Obj.cells #[Value.slice (some ad) n n, .int .i64 k] 61 (0, 0))] : Hp).Perm ([(rb, Obj.cells #[Value.slice (some ad) n n, .int .i64 k] 61 (0, 0))] ++ [(b3, Obj.cells (u8s [0, 0, 0, 0, 0, 0, 0, 0]).toArray 29 (0, 0)), (b2, Obj.cells (u8s [0, 0, 0, 0, 0, 0, 0, 0]).toArray 29 (0, 0))]) := (perm_of fun f => by (simp only [List.map_append, List.map_cons, List.map_nil, List.sum_append, List.sum_cons, List.sum_nil] <;> omega))
  refine DR.c 2 (DOp.op1 rfl (OpTo.callT Try.func31 hz (fun w' hm => take_ok rb n k 8 ad hn hk w' (hm.has _ m2))) ?_)
  intro _
  rw [if_neg (show ¬ n = k by omega), Nat.mul_one]
  have hS : (ad.add k).block ∉ ([(rb, Obj.cells #[Value.slice (some ad) n n, .int .i64 k] 61 (0, 0))] : Hp).map (·.1) := by
    intro h
    have h' := List.mem_singleton.1 h
    exact hrb ((show (ad.add k).block = ad.block by first | rfl | (unfold Addr.add; split <;> rfl)).symm.trans h')
  refine DR.c 3 ?_
  refine DOp.op1 rfl (OpTo.copyTo tabOk (arr := (u8s [0, 0, 0, 0, 0, 0, 0, 0]).toArray) (e := 29) (b := b3) (off := 0) (L' := [(rb, Obj.cells #[Value.slice (some ad) n n, .int .i64 ((k + 8 : Nat) : Int)] 61 (0, 0)), (b2, Obj.cells (u8s [0, 0, 0, 0, 0, 0, 0, 0]).toArray 29 (0, 0))]) (arr' := (u8s l).toArray) (m := 8) (cs := u8s l) (Rd.old hS (fun j u hj => by rw [add_add]; exact hr j u hj)) (by rw [wrAt_all _ _ (by rw [u8s_len, hl]; rfl)]) rfl rfl rfl rfl rfl rfl rfl rfl (perm_of fun f => by (simp only [List.map_append, List.map_cons, List.map_nil, List.sum_append, List.sum_cons, List.sum_nil] <;> omega)) (by rw [u8s_len, hl]; rfl) rfl (by rw [u8s_len, hl]; decide) (u8s_one _)) (fun _ => ?_)
  refine DR.done (by kernel_rfl) ?_
  have hsz : (u8s l).toArray.size = 8 := by rw [List.size_toArray, u8s_len, hl]
  refine z_ ?_
  refine Run.a (vla (hv := hsz)) ?_
  refine Run.op1 (osa (u8s l).toArray (u8s_one l) (hs := hsz)) (fun _ => ?_)
  refine z_ ?_
  exact RQ.ret1 rfl (Res.cellAll tabOk rfl rfl rfl m0 hsz) fun w' hm => Turns.of (Y := Unit) (V := fun _ => .agg (u8s l).toArray) (L' := fun _ => [(rb, Obj.cells #[Value.slice (some ad) n n, .int .i64 ((k + 8 : Nat) : Int)] 61 (0, 0))]) (Lst := [(rb, Obj.cells #[Value.slice (some ad) n n, .int .i64 k] 61 (0, 0))]) () hm (Lr := [(b2, Obj.cells (u8s l).toArray 29 (0, 0)), (b3, Obj.cells (u8s l).toArray 29 (0, 0))]) (perm_of fun f => by (simp only [List.map_append, List.map_cons, List.map_nil, List.sum_append, List.sum_cons, List.sum_nil] <;> omega))
end Go.Proofs.Ytgnjdpaenojfhaa
