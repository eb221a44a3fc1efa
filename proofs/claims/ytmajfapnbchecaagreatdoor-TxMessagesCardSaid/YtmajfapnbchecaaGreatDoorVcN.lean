/- Pieces of rows of bytes; pointers; calls that make a block. -/
import Derived.Test.YtmajfapnbchecaaGreatDoorLam0
import Derived.Laws.Pointers
set_option linter.unusedSimpArgs false
set_option linter.unusedVariables false
namespace Go.Vc
open Go Go.Sha
theorem u8s_extract (l : List Nat) (a b : Nat) : (u8s l).toArray.extract a b = (u8s ((l.drop a).take (b - a))).toArray := by
  apply Array.ext'
  rw [Array.toList_extract, u8s_take, u8s_drop]

section
variable {P : Program} {n : Nat} {w0 : World} {S0 : List Nat} {Q : Exit → Act → World → Prop} {E : Env} {L : Hp} {o : Oper} {d : Nat} {T : List (Nat × TI)} {t : Nat} {ti : TI} {ops : Array Oper}
theorem Val.indexU (hT : TabOk P T) (j : Nat) {x y : Operand} {len el : Nat} {k : IntKind} {z : Int} {ei : TI} {l : List Nat} {c : Nat} (ho : o.op = .index t x y) (ht : tiGet T t = some ti) (hd : ti.desc = .array len el) (he : tiGet T el = some ei) (hea : TypeDesc.agg ei.desc = true)
    (hx : lk E x = some (.agg (u8s l).toArray)) (hy : lk E y = some (.int k z)) (hz : z = j) (h1 : j < len) (hc : ei.size = c) : Val P n w0 S0 E L o (.agg (u8s (pc c l j)).toArray) := by
  subst hc
  refine Val.indexN hT j ho ht hd he hx hy hz h1 ?_
  simp only [partOf, hea, cond_true, u8s_extract, pc]
  rw [Nat.add_sub_cancel_left]
theorem Val.loadPc (hT : TabOk P T) (i : Nat) {x : Operand} {b off : Nat} {l : List Nat} {c : Nat} {e : TypeId} {fz : Nat × Nat} (ho : o.op = .load t x) (ht : tiGet T t = some ti)
    (hx : lk E x = some (.pointer (some ⟨b, off, none⟩))) (ha : TypeDesc.agg ti.desc = true) (hm : (b, .cells (u8s l).toArray e fz) ∈ L) (hoff : off = i * c) (hc : ti.size = c) (hl : (pc c l i).length = c) : Val P n w0 S0 E L o (.agg (u8s (pc c l i)).toArray) := by
  subst hoff
  exact Val.loadR hT ho ht hx ha (by rw [u8s_len, hl, hc]) (Rd.row hm (pc_row i))
/-- p == nil -/
theorem Val.ptrNil (hT : TabOk P T) {x y : Operand} {a : Addr} {el t2 : Nat} (ho : o.op = .binOp .eql t x y t2) (ht : tiGet T t = some ti) (hd : ti.desc = .pointer el) (hx : lk E x = some (.pointer (some a))) (hy : lk E y = some (.pointer none)) :
    Val P n w0 S0 E L o (.bool false) := by
  intro ac w hs _
  have h2 := (hT _ _ ht).1
  rw [hd] at h2
  have h3 : P.underlying t = some (.pointer (P.pointee t)) := by rw [h2]; simp [Program.pointee, h2]
  have hg : (eqGuard .eql t x y (.pointer (some a)) (.pointer none)).run P w = .ok () w := by simp [eqGuard]
  simp [execOp, ho, hs.eval hx, hs.eval hy, hg, run_eql_pointer_nil w t (some a) h3]

theorem RC.thenCut {x y : Code} {Q' : Exit → Act → World → Prop} {Y : Type} (Ey : Y → Env) (Ly : Y → Hp) (h : RC P n w0 S0 x (To n w0 S0 Ey Ly) E L) (k : ∀ i, RC P n w0 S0 y Q (Ey i) (Ly i)) : RC P n w0 S0 x (Exit.then (y.wp P Q) Q') E L :=
  fun a w hs hm => wp_mono (h a w hs hm) fun e a w q => by
    cases e with
    | normal => obtain ⟨i, h1, h2⟩ := q; exact k i a w h1 h2
    | _ => exact q.elim
/-- It makes a block, and gives a value that hangs on it. -/
def NewOf (P : Program) (f : FuncId) (vs : List Value) (w : World) (V : Nat → Value) (ob : Obj) : Prop :=
  Calls P f vs.toArray w fun e w' => ∃ b, e = .returned (V b) ∧ Fr [] w w' ∧ w'.heap[b]? = some ob ∧ w.heap.size ≤ b
theorem OpTo.callNew {f : FuncId} {xs : List Operand} {ts : Array TypeId} {fn : Func} {vs : List Value} {V : Nat → Value} {ob : Obj} (hf : P.funcs[f]? = some fn) (hd : o.dst = some d) (hn : Nat.blt d n = true)
    (ho : o.op = .call { callee := .value (.func f), args := xs.toArray, argTypes := ts }) (hnm : (fn.name == "runtime.NumGoroutine") = false) (hb : fn.body.isNone = false)
    (hx : lkAll E xs = some vs) (hc : ∀ w, Mem w0 S0 L w → NewOf P f vs w V ob) : OpTo P n w0 S0 Q E L o (Y := Nat) (fun b => (d, V b) :: E) (fun b => (b, ob) :: L) :=
  OpTo.call (Y := Nat) (V := V) (L' := fun b => (b, ob) :: L) hf hd hn ho hnm hb hx (fun w hm => (hc w hm).mono (by
    rintro e' w' ⟨b, rfl, hfr, hbl, hsz⟩
    exact ⟨b, rfl, hm.add (N := [(b, ob)]) hfr (fun p hp => by rw [List.mem_singleton] at hp; subst hp; exact hbl) (fun p hp => by rw [List.mem_singleton] at hp; subst hp; exact hsz) (by simp)⟩))
theorem NewOf.of {V : Nat → Value} {ob : Obj} {b : Nat} {w : World} {L' : Hp} (hm : Mem w0 [] L' w) (h : (b, ob) ∈ L') : ∃ b', Ending.returned (V b) = .returned (V b') ∧ Fr [] w0 w ∧ w.heap[b']? = some ob ∧ w0.heap.size ≤ b' :=
  ⟨b, rfl, hm.fr, hm.has _ h, (hm.own _ h).resolve_right (by simp)⟩
/-- A block that stands as it was. -/
theorem Mem.old {b : Nat} {ob : Obj} {w : World} (hm : Mem w0 [] L w) (h : w0.heap[b]? = some ob) : w.heap[b]? = some ob :=
  (hm.fr.block b (Array.getElem?_eq_some_iff.1 h).1 (by simp)).trans h
theorem Fr.old {w w' : World} {b : Nat} {ob : Obj} (hf : Fr [] w w') (h : w.heap[b]? = some ob) : w'.heap[b]? = some ob :=
  (hf.block b (Array.getElem?_eq_some_iff.1 h).1 (by simp)).trans h
theorem Val.loadOldU (hT : TabOk P T) {x : Operand} {b : Nat} {l : List Nat} {e : TypeId} {fz : Nat × Nat} (ho : o.op = .load t x) (ht : tiGet T t = some ti)
    (hx : lk E x = some (.pointer (some ⟨b, 0, none⟩))) (ha : TypeDesc.agg ti.desc = true) (hS : S0 = []) (hb : w0.heap[b]? = some (.cells (u8s l).toArray e fz)) (hl : l.length = ti.size) : Val P n w0 S0 E L o (.agg (u8s l).toArray) := by
  refine Val.loadOld hT ho ht hx ha (by simp [hS]) (by rw [u8s_len, hl]) (fun j v hj => ?_)
  rw [add_lit, Nat.zero_add, cell_of_row w0 b j _ e fz hb, List.getElem?_toArray]
  exact hj
end
end Go.Vc
