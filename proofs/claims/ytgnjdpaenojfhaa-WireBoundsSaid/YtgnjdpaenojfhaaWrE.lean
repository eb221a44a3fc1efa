/- wire: the reader. -/
import Derived.Test.YtgnjdpaenojfhaaWrD
import Derived.Test.YtgnjdpaenojfhaaVcT
set_option linter.unusedSimpArgs false
set_option linter.unusedVariables false
namespace Go.Vc
open Go
theorem Val.mkI {P : Program} {n : Nat} {w0 : World} {S0 : List Nat} {E : Env} {L : Hp} {o : Oper} {T : List (Nat × TI)} (hT : TabOk P T) {t : TypeId} {ti : TI} {fs : Array Field} {x : Operand} {v : Value} (ho : o.op = .makeInterface t x) (ht : tiGet T t = some ti) (hd : ti.desc = .struct fs) (hx : lk E x = some v) : Val P n w0 S0 E L o (.iface t v) := by
  intro a w hs _
  have h2 := (hT _ _ ht).1
  rw [hd] at h2
  simp [execOp, ho, hs.eval hx, Instr.makeInterface, run_underlying h2]
end Go.Vc
namespace Go.Proofs.Ytgnjdpaenojfhaa
attribute [local irreducible] Go.Vc.Run Go.Vc.RC Go.Vc.RQ Go.Vc.DR Go.Vc.DOp
open Go Go.Vc Go.Sha
set_option maxRecDepth 10000 in set_option maxHeartbeats 4000000 in
theorem RLeft_calls (rb n c k : Nat) (a : Option Addr) (hn : n ≤ 1000000) (hk : k ≤ n) (w : World) (hs : w.heap[rb]? = some (.cells #[.slice a n c, .int .i64 k] 61 (0, 0))) :
    Gives Try.prog 15 [.pointer (some ⟨rb, 0, none⟩)] (.int .i64 ((n : Int) - k)) w := by
  refine enter Try.func15 rfl (Mem.nil w []) rfl ?_
  have hc0 : w.cell? ⟨rb, 0, none⟩ = some (.slice a n c) := by rw [cell_of_row w rb 0 _ _ _ hs]; rfl
  have hc1 : w.cell? ⟨rb, 1, none⟩ = some (.int .i64 k) := by rw [cell_of_row w rb 1 _ _ _ hs]; rfl
  refine z_ ?_
  (repeat refine RC.seq ?_); refine RC.drawS mixed (N := 11) rfl ?_
  refine dt 0 ?_
  refine dt 1 ?_
  refine dt 2 ?_
  refine DR.t 3 rfl (vlo hc0) ?_
  refine dt 4 ?_
  refine dt 5 ?_
  refine dt 6 ?_
  refine dt 7 ?_
  refine DR.t 8 rfl (vlo hc1) ?_
  refine dt 9 ?_
  refine dt 10 ?_
  refine DR.done (by kernel_rfl) ?_
  refine z_ ?_
  exact RQ.ret1 rfl (Res.tmp rfl) fun w' hm => ⟨rfl, hm.fr⟩
/-- What a reader panics with. -/
abbrev shortP : List PanicEntry := [{ v := .iface 58 (.agg #[]), recovered := false }]
theorem take_short (rb n c k m : Nat) (a : Option Addr) (hn : n ≤ 1000000) (hk : k ≤ n) (hm : n - k < m) (w : World) (hs : w.heap[rb]? = some (.cells #[.slice a n c, .int .i64 k] 61 (0, 0))) :
    Calls Try.prog 31 #[.pointer (some ⟨rb, 0, none⟩), .int .i64 m] w fun e w' => e = .panicked shortP ∧ Fr [] w w' := by
  refine enter (vs := [.pointer (some ⟨rb, 0, none⟩), .int .i64 m]) Try.func31 rfl (Mem.nil w []) rfl ?_
  refine z_ ?_
  refine Run.op1 (OpTo.cv Try.func15 (fun w' hm => RLeft_calls rb n c k a hn hk w' (hm.old hs))) (fun _ => ?_)
  refine z_ ?_
  refine Run.a (vbs #[]) ?_
  refine Run.a (Val.mkI tabOk rfl rfl rfl rfl) ?_
  refine Run.panic (v := .agg #[]) (pt := 58) ?_
  repeat first | refine RQ.thenPanic ?_ | refine RQ.blockPanic ?_
  exact RQ.panic fun w' hm => ⟨rfl, hm.fr⟩
theorem take_ok (rb n k m : Nat) (ad : Addr) (hn : n ≤ 1000000) (hk : k + m ≤ n) (w : World) (hs : w.heap[rb]? = some (.cells #[.slice (some ad) n n, .int .i64 k] 61 (0, 0))) :
    Turns Try.prog 31 [.pointer (some ⟨rb, 0, none⟩), .int .i64 m] w [(rb, Obj.cells #[Value.slice (some ad) n n, .int .i64 k] 61 (0, 0))] (Y := Unit) (fun _ => .slice (some (if n = k then ad else ad.add (k * 1))) m (n - k)) (fun _ => [(rb, Obj.cells #[Value.slice (some ad) n n, .int .i64 ((k + m : Nat) : Int)] 61 (0, 0))]) := by
  have hL : Has [(rb, Obj.cells #[Value.slice (some ad) n n, .int .i64 k] 61 (0, 0))] w := fun p hp => by rw [List.mem_singleton] at hp; subst hp; exact hs
  refine enter Try.func31 rfl (Mem.init (S0 := ([(rb, Obj.cells #[Value.slice (some ad) n n, .int .i64 k] 61 (0, 0))] : Hp).map (·.1)) hL (fun p hp => List.mem_map_of_mem hp) (by simp)) rfl ?_
  refine z_ ?_
  refine Run.op1 (OpTo.cv Try.func15 (fun w' hm => RLeft_calls rb n n k (some ad) hn (by omega) w' (hm.has _ m0))) (fun _ => ?_)
  refine z_ ?_
  refine Run.op1 (os1 #[Value.slice (some ad) n n, .int .i64 ((k + m : Nat) : Int)]) (fun _ => ?_)
  refine z_ ?_
  (repeat refine RC.seq ?_); refine RC.drawS mixed (N := 16) rfl ?_
  refine dt 0 ?_
  refine dt 1 ?_
  refine dt 2 ?_
  refine dt 3 ?_
  refine dt 4 ?_
  refine dt 5 ?_
  refine dt 6 ?_
  refine dt 7 ?_
  refine dt 8 ?_
  refine dt 9 ?_
  refine dt 10 ?_
  refine dt 11 ?_
  refine dt 12 ?_
  refine dt 13 ?_
  refine DR.t 14 rfl (Val.sliceS tabOk (zl := k) (zh := k + m) rfl rfl rfl rfl rfl (.inr ⟨_, rfl, by show some (Value.int _ _) = _; congr 2; omega⟩) (.inr ⟨_, rfl, rfl⟩) (by omega) (by omega)) ?_
  refine dt 15 ?_
  refine DR.done (by kernel_rfl) ?_
  refine z_ ?_
  rw [show k + m - k = m from by omega]
  exact RQ.ret1 rfl (Res.tmp rfl) fun w' hm => Turns.of (Y := Unit) (V := fun _ => .slice (some (if n = k then ad else ad.add (k * 1))) m (n - k)) (L' := fun _ => [(rb, Obj.cells #[Value.slice (some ad) n n, .int .i64 ((k + m : Nat) : Int)] 61 (0, 0))]) (Lst := [(rb, Obj.cells #[Value.slice (some ad) n n, .int .i64 k] 61 (0, 0))]) () hm (Lr := []) (perm_of fun f => by (simp only [List.map_append, List.map_cons, List.map_nil, List.sum_append, List.sum_cons, List.sum_nil] <;> omega))
end Go.Proofs.Ytgnjdpaenojfhaa
