/- Slices as arguments and results of calls. -/
import Derived.Test.YtilfbomjaflbjaaDoorVcG
import Derived.Laws.Cover3
namespace Go.Vc
open Go

/-- A slice value of m elements that reads as these cells, in this world. -/
inductive SrcW (w : World) (sz : Nat) : Value → Nat → List Value → Prop
  | nil : SrcW w sz (.slice none 0 0) 0 []
  | at (a : Addr) (m c : Nat) (cs : List Value) (hl : cs.length = m * sz) (hm : m ≤ c) (hr : ∀ j u, cs[j]? = some u → w.cell? (a.add j) = some u) : SrcW w sz (.slice (some a) m c) m cs

theorem SrcW.len {w : World} {sz m : Nat} {v : Value} {cs : List Value} (h : SrcW w sz v m cs) : cs.length = m * sz := by
  cases h with
  | nil => simp
  | «at» _ _ _ _ hl => exact hl
theorem SrcW.shape {w : World} {sz m : Nat} {v : Value} {cs : List Value} (h : SrcW w sz v m cs) : ∃ a c, v = .slice a m c ∧ m ≤ c := by
  cases h with
  | nil => exact ⟨none, 0, rfl, Nat.le_refl _⟩
  | «at» a m c _ _ hm => exact ⟨some a, c, rfl, hm⟩
theorem SrcW.fr {w w' : World} {sz m : Nat} {v : Value} {cs : List Value} (h : SrcW w sz v m cs) (hf : Fr [] w w') : SrcW w' sz v m cs := by
  cases h with
  | nil => exact .nil
  | «at» a m c cs hl hm hr => exact .at a m c cs hl hm (fun j u hj => hf.cell (by simp) (hr j u hj))
/-- .. where the blocks that turn are not the slice's -/
theorem SrcW.frS {S : List Nat} {w w' : World} {sz m : Nat} {v : Value} {cs : List Value} (h : SrcW w sz v m cs) (hf : Fr S w w') (hS : ∀ a n c, v = .slice (some a) n c → a.block ∉ S) : SrcW w' sz v m cs := by
  cases h with
  | nil => exact .nil
  | «at» a m c cs hl hm hr => exact .at a m c cs hl hm (fun j u hj => hf.cell (by rw [show (a.add j).block = a.block by unfold Addr.add; split <;> rfl]; exact hS a m c rfl) (hr j u hj))

section
variable {P : Program} {n : Nat} {w0 : World} {S0 : List Nat} {Q : Exit → Act → World → Prop} {E : Env} {L : Hp} {o : Oper} {d : Nat} {T : List (Nat × TI)} {t : Nat} {ti : TI} {ops : Array Oper} {l rest : List Oper}

theorem SrcW.src {sz m : Nat} {v : Value} {cs : List Value} (h : SrcW w0 sz v m cs) : Src w0 [] L sz v m cs := by
  cases h with
  | nil => exact .nil
  | «at» a m c cs hl hm hr => exact .at a m c cs hl (Rd.old (by simp) hr)
theorem SrcW.mem {sz m : Nat} {v : Value} {cs : List Value} (h : SrcW w0 sz v m cs) {w : World} (hm : Mem w0 [] L w) : SrcW w sz v m cs := h.fr hm.fr
theorem Own.srcW {e : TypeId} {sz : Nat} {v : Value} {m : Nat} {cs : List Value} {bl : Hp} (h : Own e sz v m cs bl) {w : World} (hb : ∀ p ∈ bl, w.heap[p.1]? = some p.2) : SrcW w sz v m cs := by
  cases h with
  | nil => exact .nil
  | row b _ cap _ rest h1 h2 hn _ =>
    refine .at _ _ _ _ h1 hn (fun j u hj => ?_)
    rw [add_lit, cell_of_row w b (0 + j) _ e _ (hb _ (List.mem_singleton.2 rfl)), Nat.zero_add, List.getElem?_toArray, List.getElem?_append_left]
    · exact hj
    · exact (List.getElem?_eq_some_iff.1 hj).1
theorem Own.shape {e : TypeId} {sz : Nat} {v : Value} {m : Nat} {cs : List Value} {bl : Hp} (h : Own e sz v m cs bl) : ∃ a c, v = .slice a m c ∧ m ≤ c := by
  cases h with
  | nil => exact ⟨none, 0, rfl, Nat.le_refl _⟩
  | row b _ cap _ _ _ _ hn _ => exact ⟨_, cap, rfl, hn⟩

/-- It makes a slice of its own. -/
def Makes (P : Program) (f : FuncId) (vs : List Value) (w : World) (e : TypeId) (sz m : Nat) (cs : List Value) : Prop :=
  Calls P f vs.toArray w fun e' w' => ∃ v bl, e' = .returned v ∧ Own e sz v m cs bl ∧ Fr [] w w' ∧ (∀ p ∈ bl, w'.heap[p.1]? = some p.2 ∧ w.heap.size ≤ p.1) ∧ (bl.map (·.1)).Nodup

theorem OpTo.callMk {f : FuncId} {xs : List Operand} {ts : Array TypeId} {fn : Func} {vs : List Value} {e : TypeId} {sz m : Nat} {cs : List Value} (hf : P.funcs[f]? = some fn) (hd : o.dst = some d) (hn : Nat.blt d n = true)
    (ho : o.op = .call { callee := .value (.func f), args := xs.toArray, argTypes := ts }) (hnm : (fn.name == "runtime.NumGoroutine") = false) (hb : fn.body.isNone = false)
    (hx : lkAll E xs = some vs) (hc : ∀ w, Mem w0 S0 L w → Makes P f vs w e sz m cs) : OpTo P n w0 S0 Q E L o (Y := {p : Value × Hp // Own e sz p.1 m cs p.2}) (fun y => (d, y.1.1) :: E) (fun y => y.1.2 ++ L) :=
  OpTo.call (Y := {p : Value × Hp // Own e sz p.1 m cs p.2}) (V := fun y => y.1.1) (L' := fun y => y.1.2 ++ L) hf hd hn ho hnm hb hx (fun w hm => (hc w hm).mono (by
    rintro e' w' ⟨v, bl, rfl, hown, hfr, hbl, hnd⟩
    exact ⟨⟨(v, bl), hown⟩, rfl, hm.add hfr (fun p hp => (hbl p hp).1) (fun p hp => (hbl p hp).2) hnd⟩))

/-- What is handed back of the call's own. -/
theorem Makes.of {e : TypeId} {sz m : Nat} {cs : List Value} {v : Value} {bl L' : Hp} {w : World} (hown : Own e sz v m cs bl) (hm : Mem w0 [] (bl ++ L') w) :
    ∃ v' bl', Ending.returned v = .returned v' ∧ Own e sz v' m cs bl' ∧ Fr [] w0 w ∧ (∀ p ∈ bl', w.heap[p.1]? = some p.2 ∧ w0.heap.size ≤ p.1) ∧ (bl'.map (·.1)).Nodup :=
  ⟨v, bl, rfl, hown, hm.fr, fun p hp => ⟨hm.has p (List.mem_append_left _ hp), (hm.own p (List.mem_append_left _ hp)).resolve_right (by simp)⟩,
   (by have := hm.nd; rw [List.map_append] at this; exact (List.nodup_append.1 this).1)⟩

theorem fillS_nil (sz : Nat) (z : Array Value) : fillS sz 0 z #[] = some #[] := by
  have r0 : Array.range 0 = #[] := by apply Array.ext'; simp
  unfold fillS
  rw [Nat.zero_mul, r0]
  simp [Instr.fill]

theorem foldl_set (off : Nat) : ∀ (l : List Value) (k : Nat) (b : Array Value), off + k + l.length ≤ b.size →
    (l.zipIdx k).foldl (fun cs (x : Value × Nat) => cs.setIfInBounds (off + x.2) x.1) b = wrAt b (off + k) l
  | [], k, b, _ => by simp [wrAt]
  | v :: r, k, b, h => by
    simp only [List.length_cons] at h
    rw [List.zipIdx_cons, List.foldl_cons, foldl_set off r (k + 1) _ (by simp; omega)]
    unfold wrAt
    congr 1
    have hk : off + k < b.toList.length := by simp; omega
    rw [Array.toList_setIfInBounds, List.set_eq_take_append_cons_drop, if_pos hk]
    have h1 : (b.toList.take (off + k)).length = off + k := by simp; omega
    have e1 : List.take (off + (k + 1)) (b.toList.take (off + k) ++ v :: b.toList.drop (off + k + 1)) = b.toList.take (off + k) ++ [v] := by
      rw [List.take_append, h1, show off + (k + 1) - (off + k) = 1 by omega, List.take_of_length_le (by rw [h1]; omega)]
      rfl
    have e2 : List.drop (off + (k + 1) + r.length) (b.toList.take (off + k) ++ v :: b.toList.drop (off + k + 1)) = b.toList.drop (off + k + (v :: r).length) := by
      rw [List.drop_append, h1, List.drop_of_length_le (by rw [h1]; omega), List.nil_append, show off + (k + 1) + r.length - (off + k) = r.length + 1 by omega, List.drop_succ_cons, List.drop_drop]
      congr 1
      simp only [List.length_cons]
      omega
    rw [e1, e2]
    simp
theorem fill_step {place : Nat → Option (Nat × Nat)} {cells : Array Value} {i off : Nat} {v : Value} {rest : List (Nat × Value)} (hp : place i = some (off, v.cells.size)) (hf : off + v.cells.size ≤ cells.size) :
    Instr.fill place cells ((i, v) :: rest) = Instr.fill place (wrAt cells off v.cells.toList) rest := by
  have e : v.cells.zipIdx.foldl (fun cs (x : Value × Nat) => cs.setIfInBounds (off + x.2) x.1) cells = wrAt cells off v.cells.toList := by
    have := foldl_set off v.cells.toList 0 cells (by simp; omega)
    rw [Nat.add_zero] at this
    rw [← this, ← Array.foldl_toList]
    simp
  simp only [Instr.fill, hp]
  rw [if_neg (by simp; omega)]
  exact congrArg (fun c => Instr.fill place c rest) e
theorem fill_full (sz : Nat) : ∀ (vs : List Value) (k : Nat) (b : Array Value), b.size = (k + vs.length) * sz → (∀ v ∈ vs, v.cells.size = sz) →
    Instr.fill (fun i => some (i * sz, sz)) b ((List.range' k vs.length).zip vs) = some (b.toList.take (k * sz) ++ vs.flatMap (·.cells.toList)).toArray
  | [], k, b, hb, _ => by
    have : b.toList.take (k * sz) = b.toList := List.take_of_length_le (by simp [hb])
    simp [Instr.fill, this]
  | v :: r, k, b, hb, hv => by
    have h1 := hv v List.mem_cons_self
    have hsz : k * sz + sz ≤ b.size := by rw [hb, List.length_cons, ← Nat.add_assoc, Nat.add_right_comm, Nat.add_mul, Nat.add_mul]; omega
    rw [List.length_cons, List.range'_succ, List.zip_cons_cons, fill_step (off := k * sz) (by rw [h1]) (by rw [h1]; exact hsz)]
    have hlen : (wrAt b (k * sz) v.cells.toList).size = b.size := by
      unfold wrAt
      simp only [List.size_toArray, List.length_append, List.length_take, List.length_drop, Array.length_toList, h1]
      omega
    rw [fill_full sz r (k + 1) _ (by rw [hlen, hb, List.length_cons]; congr 1; omega) (fun u hu => hv u (List.mem_cons_of_mem _ hu))]
    congr 2
    unfold wrAt
    have h2 : (b.toList.take (k * sz)).length = k * sz := by simp; omega
    have h3 : (b.toList.take (k * sz) ++ v.cells.toList).length = (k + 1) * sz := by rw [List.length_append, h2, Array.length_toList, h1, Nat.add_mul, Nat.one_mul]
    show List.take ((k + 1) * sz) (b.toList.take (k * sz) ++ v.cells.toList ++ _) ++ _ = _
    rw [← h3, List.take_left, List.flatMap_cons, List.append_assoc]
theorem fillS_full (sz len : Nat) (z : Array Value) (vs : List Value) (hl : vs.length = len) (hv : ∀ v ∈ vs, v.cells.size = sz) : fillS sz len z ((List.range len).zip vs).toArray = some (vs.flatMap (·.cells.toList)).toArray := by
  unfold fillS
  have := fill_full sz vs 0 ((Array.range (len * sz)).map (z[· % z.size]!)) (by simp [hl]) hv
  rw [List.range_eq_range', ← hl]
  rw [hl] at this ⊢
  simpa using this

/-- s == nil -/
theorem Val.eqNil (hT : TabOk P T) {x y : Operand} {a : Option Addr} {m c el : Nat} {t2 : Nat} (ho : o.op = .binOp .eql t x y t2) (ht : tiGet T t = some ti) (hd : ti.desc = .slice el) (hx : lk E x = some (.slice a m c)) (hy : lk E y = some (.slice none 0 0)) :
    Val P n w0 S0 E L o (.bool a.isNone) := by
  intro ac w hs _
  have h2 := (hT _ _ ht).1
  rw [hd] at h2
  have h := run_equal_slice_nil (P := P) (w := w) t el a m c h2
  have hg : (eqGuard .eql t x y (.slice a m c) (.slice none 0 0)).run P w = .ok () w := by simp [eqGuard]
  simp [execOp, ho, hs.eval hx, hs.eval hy, hg, binOp, h]
end
end Go.Vc
