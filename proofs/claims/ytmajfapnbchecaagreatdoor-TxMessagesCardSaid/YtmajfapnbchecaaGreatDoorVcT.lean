/- Calls of function values; panics. -/
import Derived.Test.YtmajfapnbchecaaGreatDoorVcS
set_option linter.unusedSimpArgs false
set_option linter.unusedVariables false
namespace Go.Vc
open Go
section
variable {P : Program} {n : Nat} {w0 : World} {S0 : List Nat} {Q : Exit → Act → World → Prop} {E : Env} {L : Hp} {o : Oper} {d : Nat} {T : List (Nat × TI)} {t : Nat} {ti : TI} {ops : Array Oper} {l rest : List Oper}
theorem run_callF {a : Act} {f : FuncId} {x : Operand} {first cap : Array Value} {xs : List Operand} {ts : Array TypeId} {fn : Func} {vs : List Value} (hs : St n E a) (hfv : lk E x = some (.func (.func f) first cap))
    (ho : o.op = .call { callee := .value x, args := xs.toArray, argTypes := ts }) (hf : P.funcs[f]? = some fn) (hnm : (fn.name == "runtime.NumGoroutine") = false) (hb : fn.body.isNone = false)
    (hx : lkAll E xs = some vs) (w : World) : (execOp a.eval o).run P w = .ok (.enter f (first ++ vs.toArray ++ cap)) w := by
  have hv := hs.evalAll hx
  have hn' : ¬ fn.name = "runtime.NumGoroutine" := by simpa using hnm
  have hb' : ¬ fn.body = none := by intro h; rw [h] at hb; cases hb
  simp [execOp, ho, resolve, hs.eval hfv, Deferred.ofValue, invoke, callFunc, hf, hn', hb', ← hv]
/-- What a call comes to that may panic. -/
def Ends (P : Program) (f : FuncId) (args : Array Value) (w0 : World) (S0 : List Nat) (w : World) {Y Z : Type} (V : Y → Value) (L' : Y → Hp) (C : Z → List PanicEntry) (Lp : Z → Hp) : Prop :=
  Calls P f args w fun e w' => (∃ y, e = .returned (V y) ∧ Mem w0 S0 (L' y) w') ∨ (∃ z, e = .panicked (C z) ∧ Mem w0 S0 (Lp z) w')
/-- A call of a function value, which may panic. -/
theorem OpTo.callF {f : FuncId} {x : Operand} {first cap : Array Value} {xs : List Operand} {ts : Array TypeId} {fn : Func} {vs : List Value} (hf : P.funcs[f]? = some fn) {Y Z : Type} {V : Y → Value} {L' : Y → Hp} {C : Z → List PanicEntry} {Lp : Z → Hp}
    (hc : ∀ w, Mem w0 S0 L w → Ends P f (first ++ vs.toArray ++ cap) w0 S0 w V L' C Lp) (hp : ∀ z, RQ n w0 S0 (.panic (C z)) Q E (Lp z))
    (hd : o.dst = some d := by exact rfl) (hn : Nat.blt d n = true := by exact rfl)
    (ho : o.op = .call { callee := .value x, args := xs.toArray, argTypes := ts } := by exact rfl) (hfv : lk E x = some (.func (.func f) first cap) := by exact rfl) (hnm : (fn.name == "runtime.NumGoroutine") = false := by exact rfl) (hb : fn.body.isNone = false := by exact rfl)
    (hx : lkAll E xs = some vs := by exact rfl) : OpTo P n w0 S0 Q E L o (fun y => (d, V y) :: E) L' := by
  intro a w hs hm K hK
  simp only [Oper.wp, run_callF hs hfv ho hf hnm hb hx, Oper.upon_enter]
  refine (hc w hm).mono ?_
  rintro e w' (⟨y, rfl, hm'⟩ | ⟨z, rfl, hm'⟩)
  · simp only [hd]
    exact hK y _ _ (hs.put hn _) hm'
  · exact hp z a w' hs hm'
/-- A call by name that may panic. -/
theorem OpTo.callP {f : FuncId} {xs : List Operand} {ts : Array TypeId} {fn : Func} {vs : List Value} (hf : P.funcs[f]? = some fn) {Y Z : Type} {V : Y → Value} {L' : Y → Hp} {C : Z → List PanicEntry} {Lp : Z → Hp}
    (hc : ∀ w, Mem w0 S0 L w → Ends P f vs.toArray w0 S0 w V L' C Lp) (hp : ∀ z, RQ n w0 S0 (.panic (C z)) Q E (Lp z))
    (hd : o.dst = some d := by exact rfl) (hn : Nat.blt d n = true := by exact rfl)
    (ho : o.op = .call { callee := .value (.func f), args := xs.toArray, argTypes := ts } := by exact rfl) (hnm : (fn.name == "runtime.NumGoroutine") = false := by exact rfl) (hb : fn.body.isNone = false := by exact rfl)
    (hx : lkAll E xs = some vs := by exact rfl) : OpTo P n w0 S0 Q E L o (fun y => (d, V y) :: E) L' := by
  intro a w hs hm K hK
  simp only [Oper.wp, run_call hs ho hf hnm hb hx, Oper.upon_enter]
  refine (hc w hm).mono ?_
  rintro e w' (⟨y, rfl, hm'⟩ | ⟨z, rfl, hm'⟩)
  · simp only [hd]
    exact hK y _ _ (hs.put hn _) hm'
  · exact hp z a w' hs hm'
theorem Run.panic {x : Operand} {pt : TypeId} {v : Value} (h : RQ n w0 S0 (.panic [{ v := .iface pt v, recovered := false }]) Q E L) (ho : o.op = .panic x := by exact rfl) (hx : lk E x = some (.iface pt v) := by exact rfl) (hg : o.guard = none := by exact rfl) : Run P n w0 S0 l.toArray Q (o :: rest) E L := by
  intro a w hs hm
  refine wpList_plain hg fun K hK => ?_
  have hr : (execOp a.eval o).run P w = .halt (.panic (.iface pt v)) w := by simp [execOp, ho, hs.eval hx, Instr.panic, goPanic]
  simp only [Oper.wp, hr, Oper.upon_panic]
  exact h a w hs hm
theorem RQ.thenPanic {K : Act → World → Prop} {c : List PanicEntry} (h : RQ n w0 S0 (.panic c) Q E L) : RQ n w0 S0 (.panic c) (Exit.then K Q) E L := h
theorem RQ.blockPanic {id : Nat} {c : List PanicEntry} (h : RQ n w0 S0 (.panic c) Q E L) : RQ n w0 S0 (.panic c) (Exit.inBlock id Q) E L := h
theorem RQ.panic {fn : Func} {R : Ending → World → Prop} {c : List PanicEntry} (h : ∀ w, Mem w0 S0 L w → R (.panicked c) w) : RQ n w0 S0 (.panic c) (bodyPost P fn R) E L := fun a w hs hm => ⟨hs.defers, h w hm⟩
theorem RQ.ends {fn : Func} {w1 : World} {S1 : List Nat} {Y Z : Type} {V : Y → Value} {L' : Y → Hp} {C : Z → List PanicEntry} {Lp : Z → Hp} (z : Z) (hS : S0 = S1) (hw : w0 = w1) (hp : L.Perm (Lp z)) : RQ n w0 S0 (.panic (C z)) (bodyPost P fn fun e w' => (∃ y, e = .returned (V y) ∧ Mem w1 S1 (L' y) w') ∨ (∃ z, e = .panicked (C z) ∧ Mem w1 S1 (Lp z) w')) E L := by
  subst hS
  subst hw
  exact RQ.panic fun w hm => .inr ⟨z, rfl, hm.perm hp⟩
/-- A call that turns blocks, of a function value. -/
theorem OpTo.callTF {f : FuncId} {x : Operand} {xs : List Operand} {ts : Array TypeId} {fn : Func} {vs : List Value} {Lst Lr : Hp} (hf : P.funcs[f]? = some fn) {Y : Type} {V : Y → Value} {L' : Y → Hp} (hL : L.Perm (Lst ++ Lr))
    (hc : ∀ w, Mem w0 S0 L w → Turns P f vs w Lst V L')
    (hd : o.dst = some d := by exact rfl) (hn : Nat.blt d n = true := by exact rfl)
    (ho : o.op = .call { callee := .value x, args := xs.toArray, argTypes := ts } := by exact rfl) (hfv : lk E x = some (.func (.func f) #[] #[]) := by exact rfl) (hnm : (fn.name == "runtime.NumGoroutine") = false := by exact rfl) (hb : fn.body.isNone = false := by exact rfl)
    (hx : lkAll E xs = some vs := by exact rfl) : OpTo P n w0 S0 Q E L o (fun y => (d, V y) :: E) (fun y => L' y ++ Lr) := by
  refine OpTo.callF (first := #[]) (cap := #[]) hf (Z := Empty) (C := fun z => z.elim) (Lp := fun z => z.elim) (fun w hm => ?_) (fun z => z.elim) hd hn ho hfv hnm hb hx
  have e : (#[] ++ vs.toArray ++ #[] : Array Value) = vs.toArray := by simp
  unfold Ends
  rw [e]
  refine (hc w hm).mono ?_
  rintro e' w' ⟨y, rfl, hfr, hbl, hnew, hnd⟩
  exact .inl ⟨y, rfl, Turns.join hm hL hfr hbl hnew hnd⟩
end
end Go.Vc
