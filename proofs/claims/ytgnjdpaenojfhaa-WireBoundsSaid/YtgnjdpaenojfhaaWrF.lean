/- wire: a new reader. -/
import Derived.Test.YtgnjdpaenojfhaaWrE
set_option linter.unusedSimpArgs false
set_option linter.unusedVariables false
namespace Go.Vc
open Go
/-- A slice of itself, which leaves no room behind it. -/
theorem Val.slice3 {P : Program} {n : Nat} {w0 : World} {S0 : List Nat} {E : Env} {L : Hp} {o : Oper} {T : List (Nat × TI)} (hT : TabOk P T) {t : TypeId} {ti ei : TI} {x y z : Operand} {a : Option Addr} {len cap el : Nat} (ho : o.op = .slice t x none (some y) (some z)) (ht : tiGet T t = some ti) (hd : ti.desc = .slice el) (he : tiGet T el = some ei)
    (hx : lk E x = some (.slice a len cap)) (hy : lk E y = some (.int .i64 len)) (hz : lk E z = some (.int .i64 len)) (h1 : len ≤ cap) (h2 : len ≤ 1000000) : Val P n w0 S0 E L o (.slice a len len) := by
  intro ac w hs _
  have hu := (hT _ _ ht).1
  rw [hd] at hu
  have b1 := run_sliceBound (P := P) w .i64 len cap .slice3Acap (by omega) (by omega)
  have b2 := run_sliceBound (P := P) w .i64 len len .slice3B (by omega) (by omega)
  cases a <;> simp [execOp, ho, hs.eval hx, hs.eval hy, hs.eval hz, Instr.sliceAt, Instr.slice, run_underlying hu, Instr.sliceBounds, (hT _ _ he).size, b1, b2, Addr.add]
end Go.Vc
namespace Go.Proofs.Ytgnjdpaenojfhaa
attribute [local irreducible] Go.Vc.Run Go.Vc.RC Go.Vc.RQ Go.Vc.DR Go.Vc.DOp
open Go Go.Vc Go.Sha
set_option maxRecDepth 10000 in set_option maxHeartbeats 4000000 in
theorem NewReader_calls (a : Option Addr) (n c : Nat) (hn : n ≤ 1000000) (hc : n ≤ c) (w : World) : NewOf Try.prog 28 [.slice a n c] w (fun b => .pointer (some ⟨b, 0, none⟩)) (.cells #[.slice a n n, .int .i64 0] 61 (0, 0)) := by
  refine enter Try.func28 rfl (Mem.nil w []) rfl ?_
  refine z_ ?_
  refine Run.a (Val.slice3 tabOk rfl rfl rfl rfl rfl rfl rfl hc hn) ?_
  refine Run.a (vbs #[.slice a n n, .int .i64 0]) ?_
  refine Run.nw nbx ?_
  intro b
  refine z_ ?_
  exact RQ.ret1 rfl (Res.tmp rfl) fun w' hm => NewOf.of (V := fun b => .pointer (some ⟨b, 0, none⟩)) hm m0
end Go.Proofs.Ytgnjdpaenojfhaa
