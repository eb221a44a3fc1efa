/- Lemmas. -/
import Derived.Laws.Pointers
import Derived.MapKept
import Derived.Test.YtfoeakgnkfcbjaaGreatDoorPt03
set_option linter.unusedSimpArgs false
set_option linter.unusedVariables false
section
/- Keys that sign once: plain. -/
namespace Go.Sha
open Go.Vc

/-- The piece of c at number i. -/
def pc (c : Nat) (l : List Nat) (i : Nat) : List Nat := (l.drop (i * c)).take c
theorem pc_row {c : Nat} {l : List Nat} (i : Nat) : ∀ j u, (u8s (pc c l i))[j]? = some u → (u8s l).toArray[i * c + j]? = some u := by
  intro j u hj
  rw [pc, u8s_take, u8s_drop, List.getElem?_take] at hj
  split at hj
  · rw [List.getElem?_drop] at hj
    rw [List.getElem?_toArray]
    exact hj
  · cases hj
/-- A piece of a row is written anew. -/
theorem wr_mid (pre old new post : List Nat) (h : old.length = new.length) : wrAt (u8s (pre ++ old ++ post)).toArray pre.length (u8s new) = (u8s (pre ++ new ++ post)).toArray := by
  unfold wrAt
  congr 1
  show List.take pre.length (u8s (pre ++ old ++ post)) ++ u8s new ++ List.drop (pre.length + (u8s new).length) (u8s (pre ++ old ++ post)) = _
  have e1 : List.take pre.length (pre ++ old ++ post) = pre := by rw [List.append_assoc, List.take_left]
  have e2 : List.drop (pre.length + new.length) (pre ++ old ++ post) = post := by rw [← h, ← List.length_append, List.drop_left]
  rw [← u8s_take, u8s_len, ← u8s_drop, e1, e2, ← u8s_app, ← u8s_app]
theorem wr_next (pre new : List Nat) (k : Nat) : wrAt (u8s (pre ++ List.replicate (new.length + k) 0)).toArray pre.length (u8s new) = (u8s (pre ++ new ++ List.replicate k 0)).toArray := by
  rw [← List.replicate_append_replicate, ← List.append_assoc]
  exact wr_mid pre _ new _ (by simp)

def markH (h : List Nat) : List Nat := digest 112 [h]
end Go.Sha
end
section
/- Pieces of rows of bytes; pointers; calls that make a block. -/
namespace Go.Vc
open Go Go.Sha
section
variable {P : Program} {n : Nat} {w0 : World} {S0 : List Nat} {Q : Exit → Act → World → Prop} {E : Env} {L : Hp} {o : Oper} {d : Nat} {T : List (Nat × TI)} {t : Nat} {ti : TI} {ops : Array Oper}
/-- p == nil -/
theorem Val.ptrNil (hT : TabOk P T) {x y : Operand} {a : Addr} {el t2 : Nat} (ho : o.op = .binOp .eql t x y t2) (ht : tiGet T t = some ti) (hd : ti.desc = .pointer el) (hx : lk E x = some (.pointer (some a))) (hy : lk E y = some (.pointer none)) :
    Val P n w0 S0 E L o (.bool false) := by
  intro ac w hs _
  have h2 := (hT _ _ ht).1
  rw [hd] at h2
  have h3 : P.underlying t = some (.pointer (P.pointee t)) := by rw [h2]; simp [Program.pointee, h2]
  have hg : (eqGuard .eql t x y (.pointer (some a)) (.pointer none)).run P w = .ok () w := by simp [eqGuard]
  simp [execOp, ho, hs.eval hx, hs.eval hy, hg, run_eql_pointer_nil w t (some a) h3]

theorem RC.thenCut {x y : Code} {Q' : Exit → Act → World → Prop} {Y : Type} (Ey : Y → Env) (Ly : Y → Hp) (h : RC P n w0 S0 x (To n w0 S0 Ey Ly) E L) (k : ∀ i, RC P n w0 S0 y Q (Ey i) (Ly i)) : RC P n w0 S0 x (Exit.then (y.wp P Q) Q') E L :=
  fun a w hs hm => wp_mono (h a w hs hm) fun e a w q => by
    cases e with
    | normal => obtain ⟨i, h1, h2⟩ := q; exact k i a w h1 h2
    | _ => exact q.elim
/-- It makes a block, and gives a value that hangs on it. -/
def NewOf (P : Program) (f : FuncId) (vs : List Value) (w : World) (V : Nat → Value) (ob : Obj) : Prop :=
  Calls P f vs.toArray w fun e w' => ∃ b, e = .returned (V b) ∧ Fr [] w w' ∧ w'.heap[b]? = some ob ∧ w.heap.size ≤ b
theorem OpTo.callNew {f : FuncId} {xs : List Operand} {ts : Array TypeId} {fn : Func} {vs : List Value} {V : Nat → Value} {ob : Obj} (hf : P.funcs[f]? = some fn) (hd : o.dst = some d) (hn : Nat.blt d n = true)
    (ho : o.op = .call { callee := .value (.func f), args := xs.toArray, argTypes := ts }) (hnm : (fn.name == "runtime.NumGoroutine") = false) (hb : fn.body.isNone = false)
    (hx : lkAll E xs = some vs) (hc : ∀ w, Mem w0 S0 L w → NewOf P f vs w V ob) : OpTo P n w0 S0 Q E L o (Y := Nat) (fun b => (d, V b) :: E) (fun b => (b, ob) :: L) :=
  OpTo.call (Y := Nat) (V := V) (L' := fun b => (b, ob) :: L) hf hd hn ho hnm hb hx (fun w hm => (hc w hm).mono (by
    rintro e' w' ⟨b, rfl, hfr, hbl, hsz⟩
    exact ⟨b, rfl, hm.add (N := [(b, ob)]) hfr (fun p hp => by rw [List.mem_singleton] at hp; subst hp; exact hbl) (fun p hp => by rw [List.mem_singleton] at hp; subst hp; exact hsz) (by simp)⟩))
theorem NewOf.of {V : Nat → Value} {ob : Obj} {b : Nat} {w : World} {L' : Hp} (hm : Mem w0 [] L' w) (h : (b, ob) ∈ L') : ∃ b', Ending.returned (V b) = .returned (V b') ∧ Fr [] w0 w ∧ w.heap[b']? = some ob ∧ w0.heap.size ≤ b' :=
  ⟨b, rfl, hm.fr, hm.has _ h, (hm.own _ h).resolve_right (by simp)⟩
/-- A block that stands as it was. -/
theorem Mem.old {b : Nat} {ob : Obj} {w : World} (hm : Mem w0 [] L w) (h : w0.heap[b]? = some ob) : w.heap[b]? = some ob :=
  (hm.fr.block b (Array.getElem?_eq_some_iff.1 h).1 (by simp)).trans h
end
end Go.Vc
end
section
/- Maps whose keys are whole numbers: made, set, counted. -/
namespace Go.Vc
open Go Go.Sha
section
variable {P : Program} {n : Nat} {w0 : World} {S0 : List Nat} {Q : Exit → Act → World → Prop} {E : Env} {L : Hp} {o : Oper} {d : Nat} {T : List (Nat × TI)} {t : Nat} {ti : TI}
end
end Go.Vc
end
