/- wire: the function that Read guards. -/
import Derived.Test.YtgnjdpaenojfhaaWrM
set_option linter.unusedSimpArgs false
set_option linter.unusedVariables false
namespace Go.Vc
open Go
section
variable {P : Program} {n : Nat} {w0 : World} {S0 : List Nat} {Q : Exit → Act → World → Prop} {E : Env} {L : Hp} {o : Oper} {d : Nat} {T : List (Nat × TI)} {t : Nat} {ti : TI}
theorem run_equalIn_func (d : Nat) {t : TypeId} {ps rs : Array TypeId} {vd : Bool} (h : P.underlying t = some (.func ps rs vd)) (f : Fn) (a b : Array Value) (w : World) : (Op.equalIn (d + 1) t (.func f a b) .nilFunc).run P w = .ok false w := by
  simp [Op.equalIn, run_underlying h]
theorem run_equalIn_func0 (d : Nat) {t : TypeId} {ps rs : Array TypeId} {vd : Bool} (h : P.underlying t = some (.func ps rs vd)) (w : World) : (Op.equalIn (d + 1) t .nilFunc .nilFunc).run P w = .ok true w := by
  simp [Op.equalIn, run_underlying h]
theorem Val.funcNe (hT : TabOk P T) {x y : Operand} {f : Fn} {a b : Array Value} {ps rs : Array TypeId} {vd : Bool} {t2 : Nat} (ho : o.op = .binOp .neq t x y t2) (ht : tiGet T t = some ti) (hd : ti.desc = .func ps rs vd) (hx : lk E x = some (.func f a b)) (hy : lk E y = some .nilFunc) :
    Val P n w0 S0 E L o (.bool true) := by
  intro ac w hs _
  have h2 := (hT _ _ ht).1
  rw [hd] at h2
  have hg : (eqGuard .neq t x y (.func f a b) .nilFunc).run P w = .ok () w := by simp [eqGuard]
  have he : (Op.equal t (.func f a b) .nilFunc).run P w = .ok false w := by
    exact run_equalIn_func 9999 h2 f a b w
  simp [execOp, ho, hs.eval hx, hs.eval hy, hg, binOp, he]
theorem Val.funcNil (hT : TabOk P T) {x y : Operand} {ps rs : Array TypeId} {vd : Bool} {t2 : Nat} (ho : o.op = .binOp .neq t x y t2) (ht : tiGet T t = some ti) (hd : ti.desc = .func ps rs vd) (hx : lk E x = some .nilFunc) (hy : lk E y = some .nilFunc) :
    Val P n w0 S0 E L o (.bool false) := by
  intro ac w hs _
  have h2 := (hT _ _ ht).1
  rw [hd] at h2
  have hg : (eqGuard .neq t x y .nilFunc .nilFunc).run P w = .ok () w := by simp [eqGuard]
  have he : (Op.equal t .nilFunc .nilFunc).run P w = .ok true w := by
    exact run_equalIn_func0 9999 h2 w
  simp [execOp, ho, hs.eval hx, hs.eval hy, hg, binOp, he]
theorem Val.mkF {f : FuncId} {fs cs : List Operand} {us vs : List Value} (ho : o.op = .makeFunc (.func f) fs.toArray cs.toArray) (hu : lkAll E fs = some us) (hv : lkAll E cs = some vs) : Val P n w0 S0 E L o (.func (.func f) us.toArray vs.toArray) := by
  intro ac w hs _
  have e1 := hs.evalAll hu
  have e2 := hs.evalAll hv
  simp [execOp, ho, Instr.makeFunc, ← e1, ← e2]
/-- What x.(T), of a struct type, gives, with ok. -/
theorem Val.assertNil (hT : TabOk P T) {x : Operand} {xt : TypeId} {fs : Array Field} (ho : o.op = .typeAssert x xt t true) (ht : tiGet T t = some ti) (hd : ti.desc = .struct fs) (hx : lk E x = some .nilIface) :
    Val P n w0 S0 E L o (.tuple #[ti.zero, .bool false]) := by
  intro ac w hs _
  have h2 := (hT _ _ ht).1
  rw [hd] at h2
  obtain ⟨_, i, hi, hsz, hby, hzz⟩ := hT _ _ ht
  simp [execOp, ho, hs.eval hx, Instr.typeAssert, run_underlying h2, zeroValue, typeInfo, hi, hzz]
theorem Val.assertNo (hT : TabOk P T) {x : Operand} {xt u : TypeId} {v : Value} {fs : Array Field} (ho : o.op = .typeAssert x xt t true) (ht : tiGet T t = some ti) (hd : ti.desc = .struct fs) (hx : lk E x = some (.iface u v)) (hu : u ≠ t) :
    Val P n w0 S0 E L o (.tuple #[ti.zero, .bool false]) := by
  intro ac w hs _
  have h2 := (hT _ _ ht).1
  rw [hd] at h2
  obtain ⟨_, i, hi, hsz, hby, hzz⟩ := hT _ _ ht
  simp [execOp, ho, hs.eval hx, Instr.typeAssert, run_underlying h2, zeroValue, typeInfo, hi, hzz, hu]
theorem Val.assertOk (hT : TabOk P T) {x : Operand} {xt : TypeId} {v : Value} {fs : Array Field} (ho : o.op = .typeAssert x xt t true) (ht : tiGet T t = some ti) (hd : ti.desc = .struct fs) (hx : lk E x = some (.iface t v)) :
    Val P n w0 S0 E L o (.tuple #[v, .bool true]) := by
  intro ac w hs _
  have h2 := (hT _ _ ht).1
  rw [hd] at h2
  simp [execOp, ho, hs.eval hx, Instr.typeAssert, run_underlying h2]
/-- A call of a function value that returns or panics. -/
theorem OpTo.callO {f : FuncId} {x : Operand} {first cap : Array Value} {xs : List Operand} {ts : Array TypeId} {fn : Func} {vs : List Value} {Lst Lr : Hp} (hf : P.funcs[f]? = some fn) {Y : Type} {r : Y → Option (TypeId × Value)} {L' : Y → Hp} (hL : L.Perm (Lst ++ Lr))
    (hc : ∀ w, Mem w0 S0 L w → TurnsO P f (first ++ vs.toArray ++ cap).toList w Lst r L')
    (hp : ∀ y p, r y = some p → RQ n w0 S0 (.panic [{ v := .iface p.1 p.2, recovered := false }]) Q E (L' y ++ Lr))
    (hnm : (fn.name == "runtime.NumGoroutine") = false) (hb : fn.body.isNone = false)
    (hd : o.dst = some d := by exact rfl) (hn : Nat.blt d n = true := by exact rfl)
    (ho : o.op = .call { callee := .value x, args := xs.toArray, argTypes := ts } := by exact rfl) (hfv : lk E x = some (.func (.func f) first cap) := by exact rfl)
    (hx : lkAll E xs = some vs := by exact rfl) : OpTo P n w0 S0 Q E L o (Y := {y : Y // r y = none}) (fun _ => (d, .tuple #[]) :: E) (fun y => L' y.1 ++ Lr) := by
  intro a w hs hm K hK
  simp only [Oper.wp, run_callF hs hfv ho hf hnm hb hx, Oper.upon_enter]
  have hc' := hc w hm
  unfold TurnsO at hc'
  rw [Array.toArray_toList] at hc'
  refine hc'.mono ?_
  rintro e w' ⟨y, rfl, hfr, hbl, hnew, hnd⟩
  have hm' := Turns.join hm hL hfr hbl hnew hnd
  cases hr : r y with
  | none =>
    simp only [endO, hd]
    exact hK ⟨y, hr⟩ _ _ (hs.put hn _) hm'
  | some p => exact hp y p hr a w' hs hm'
end
end Go.Vc
namespace Go.Proofs.Ytgnjdpaenojfhaa
attribute [local irreducible] Go.Vc.Run Go.Vc.RC Go.Vc.RQ Go.Vc.DR Go.Vc.DOp
open Go Go.Vc Go.Sha
set_option maxRecDepth 10000 in set_option maxHeartbeats 4000000 in
theorem Read1_calls {g : FuncId} {fg : Func} (hg : Try.prog.funcs[g]? = some fg) (hnm : (fg.name == "runtime.NumGoroutine") = false) (hb : fg.body.isNone = false) (capg : List Value) (bf br rb : Nat) (w : World) (Lst : Hp) (hw : Has Lst w) (hnd : (Lst.map (·.1)).Nodup) (hbf : bf ∉ Lst.map (·.1)) (hbr : br ∉ Lst.map (·.1))
    (h1 : w.heap[bf]? = some (.cells #[.func (.func g) #[] capg.toArray] 37 (0, 0))) (h2 : w.heap[br]? = some (.cells #[.pointer (some ⟨rb, 0, none⟩)] 36 (0, 0))) {Y : Type} {o : Y → Option (TypeId × Value)} {L' : Y → Hp}
    (hc : ∀ w', Fr [] w w' → TurnsO Try.prog g (.pointer (some ⟨rb, 0, none⟩) :: capg) w' Lst o L') :
    TurnsO Try.prog 30 [.pointer (some ⟨bf, 0, none⟩), .pointer (some ⟨br, 0, none⟩)] w Lst o L' := by
  refine enter Try.func30 rfl (Mem.init (S0 := Lst.map (·.1)) hw (fun p hp => List.mem_map_of_mem hp) hnd) rfl ?_
  have hc1 : w.cell? ⟨bf, 0, none⟩ = some (.func (.func g) #[] capg.toArray) := by rw [cell_of_row w bf 0 _ _ _ h1]; rfl
  have hc2 : w.cell? ⟨br, 0, none⟩ = some (.pointer (some ⟨rb, 0, none⟩)) := by rw [cell_of_row w br 0 _ _ _ h2]; rfl
  refine z_ ?_
  refine Run.a (vlo hc1 (hS := hbf)) ?_
  refine Run.a (Val.funcNe tabOk rfl rfl rfl rfl rfl) ?_
  refine z_ ?_
  refine Run.a (vlo hc1 (hS := hbf)) ?_
  refine Run.a (vlo hc2 (hS := hbr)) ?_
  have hz : Lst.Perm (Lst ++ []) := by rw [List.append_nil]
  refine Run.op1 (OpTo.callO (r := o) (L' := L') hg hz (fun w' hm' => ?_) (fun y p hp => ?_) hnm hb) ?_
  · rw [show (#[] ++ [Value.pointer (some ⟨rb, 0, none⟩)].toArray ++ capg.toArray : Array Value).toList = .pointer (some ⟨rb, 0, none⟩) :: capg from by simp]
    refine hc w' ⟨hm'.fr.os, hm'.fr.tape, hm'.fr.output, hm'.fr.size, fun k hk _ => ?_⟩
    by_cases hin : k ∈ Lst.map (·.1)
    · obtain ⟨p, hp, rfl⟩ := List.mem_map.1 hin
      rw [hm'.has p hp, hw p hp]
    · exact hm'.fr.block k hk hin
  · repeat first | refine RQ.thenPanic ?_ | refine RQ.blockPanic ?_
    exact RQ.panic fun w' hm => TurnsO.of y (by rw [hp]; rfl) hm (Lr := []) (List.Perm.refl _)
  rintro ⟨y, hy⟩
  dsimp only
  refine z_ ?_
  exact RQ.end0 rfl fun w' hm => TurnsO.of y (by rw [hy]; rfl) hm (Lr := []) (List.Perm.refl _)
theorem Read1_nil (bf br : Nat) (w : World) (Lst : Hp) (hw : Has Lst w) (hnd : (Lst.map (·.1)).Nodup) (hbf : bf ∉ Lst.map (·.1))
    (h1 : w.heap[bf]? = some (.cells #[.nilFunc] 37 (0, 0))) :
    TurnsO Try.prog 30 [.pointer (some ⟨bf, 0, none⟩), .pointer (some ⟨br, 0, none⟩)] w Lst (Y := Unit) (fun _ => none) (fun _ => Lst) := by
  refine enter Try.func30 rfl (Mem.init (S0 := Lst.map (·.1)) hw (fun p hp => List.mem_map_of_mem hp) hnd) rfl ?_
  have hc1 : w.cell? ⟨bf, 0, none⟩ = some .nilFunc := by rw [cell_of_row w bf 0 _ _ _ h1]; rfl
  refine z_ ?_
  refine Run.a (vlo hc1 (hS := hbf)) ?_
  refine Run.a (Val.funcNil tabOk rfl rfl rfl rfl rfl) ?_
  refine z_ ?_
  exact RQ.end0 rfl fun w' hm => TurnsO.of (Y := Unit) (o := fun _ => none) (L' := fun _ => Lst) () rfl hm (Lr := []) (by rw [List.append_nil])
end Go.Proofs.Ytgnjdpaenojfhaa
