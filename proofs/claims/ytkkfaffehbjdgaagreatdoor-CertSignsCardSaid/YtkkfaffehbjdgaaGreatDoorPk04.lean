/- Lemmas. -/
import Derived.Laws.Pointers
import Derived.MapKept
import Derived.Test.YtkkfaffehbjdgaaGreatDoorPk03
set_option linter.unusedSimpArgs false
set_option linter.unusedVariables false
section
/- Keys that sign once: plain. -/
namespace Go.Sha
open Go.Vc

/-- Rows side by side. -/
def rowOf (f : Nat → List Nat) : Nat → List Nat
  | 0 => []
  | n + 1 => rowOf f n ++ f n
theorem rowOf_len {f : Nat → List Nat} {c : Nat} (h : ∀ i, (f i).length = c) : ∀ n, (rowOf f n).length = n * c
  | 0 => by simp [rowOf]
  | n + 1 => by rw [rowOf, List.length_append, rowOf_len h n, h, Nat.succ_mul]
theorem rowOf_lt {f : Nat → List Nat} (h : ∀ i, ∀ x ∈ f i, x < 256) : ∀ n, ∀ x ∈ rowOf f n, x < 256
  | 0, x, hx => by cases hx
  | n + 1, x, hx => by
    rw [rowOf, List.mem_append] at hx
    rcases hx with hx | hx
    · exact rowOf_lt h n x hx
    · exact h n x hx
theorem rowOf_congr {f g : Nat → List Nat} : ∀ {n}, (∀ i, i < n → f i = g i) → rowOf f n = rowOf g n
  | 0, _ => rfl
  | n + 1, h => by rw [rowOf, rowOf, rowOf_congr (n := n) (fun i hi => h i (Nat.lt_succ_of_lt hi)), h n (Nat.lt_succ_self n)]
/-- The piece of c at number i. -/
def pc (c : Nat) (l : List Nat) (i : Nat) : List Nat := (l.drop (i * c)).take c
theorem pc_rowOf {f : Nat → List Nat} {c : Nat} (h : ∀ i, (f i).length = c) : ∀ {n i}, i < n → pc c (rowOf f n) i = f i
  | 0, _, hi => by cases hi
  | n + 1, i, hi => by
    have hl := rowOf_len h n
    by_cases e : i = n
    · subst e
      unfold pc
      rw [rowOf, ← hl, List.drop_left, List.take_of_length_le (Nat.le_of_eq (h i))]
    · have hi' : i < n := by omega
      rw [← pc_rowOf h hi']
      unfold pc
      have h1 : i * c + c ≤ n * c := by rw [← Nat.succ_mul]; exact Nat.mul_le_mul_right _ hi'
      rw [rowOf, List.drop_append_of_le_length (by omega), List.take_append_of_le_length (by rw [List.length_drop]; omega)]
theorem pc_len {c : Nat} {l : List Nat} {n i : Nat} (h : l.length = n * c) (hi : i < n) : (pc c l i).length = c := by
  have h1 : i * c + c ≤ n * c := by rw [← Nat.succ_mul]; exact Nat.mul_le_mul_right _ hi
  unfold pc
  rw [List.length_take, List.length_drop]
  omega
theorem pc_lt {c : Nat} {l : List Nat} (h : ∀ x ∈ l, x < 256) (i : Nat) : ∀ x ∈ pc c l i, x < 256 := fun x hx => h x (List.mem_of_mem_drop (List.mem_of_mem_take hx))
theorem pc_row {c : Nat} {l : List Nat} (i : Nat) : ∀ j u, (u8s (pc c l i))[j]? = some u → (u8s l).toArray[i * c + j]? = some u := by
  intro j u hj
  rw [pc, u8s_take, u8s_drop, List.getElem?_take] at hj
  split at hj
  · rw [List.getElem?_drop] at hj
    rw [List.getElem?_toArray]
    exact hj
  · cases hj
/-- A row is its pieces. -/
theorem rowOf_pc {c : Nat} : ∀ {n : Nat} {l : List Nat}, l.length = n * c → rowOf (pc c l) n = l := by
  intro n l h
  have key : ∀ k, k ≤ n → rowOf (pc c l) k = l.take (k * c) := by
    intro k
    induction k with
    | zero => intro _; simp [rowOf]
    | succ k ih =>
      intro hk
      rw [rowOf, ih (by omega), pc, Nat.succ_mul, List.take_add]
  rw [key n (Nat.le_refl n), List.take_of_length_le (Nat.le_of_eq h)]
/-- A piece of a row is written anew. -/
theorem wr_mid (pre old new post : List Nat) (h : old.length = new.length) : wrAt (u8s (pre ++ old ++ post)).toArray pre.length (u8s new) = (u8s (pre ++ new ++ post)).toArray := by
  unfold wrAt
  congr 1
  show List.take pre.length (u8s (pre ++ old ++ post)) ++ u8s new ++ List.drop (pre.length + (u8s new).length) (u8s (pre ++ old ++ post)) = _
  have e1 : List.take pre.length (pre ++ old ++ post) = pre := by rw [List.append_assoc, List.take_left]
  have e2 : List.drop (pre.length + new.length) (pre ++ old ++ post) = post := by rw [← h, ← List.length_append, List.drop_left]
  rw [← u8s_take, u8s_len, ← u8s_drop, e1, e2, ← u8s_app, ← u8s_app]
theorem wr_next (pre new : List Nat) (k : Nat) : wrAt (u8s (pre ++ List.replicate (new.length + k) 0)).toArray pre.length (u8s new) = (u8s (pre ++ new ++ List.replicate k 0)).toArray := by
  rw [← List.replicate_append_replicate, ← List.append_assoc]
  exact wr_mid pre _ new _ (by simp)

/-- A secret of a key: chapter 7. -/
def secret (seed : List Nat) (ib i b : Nat) : List Nat := digest 115 [seed, [ib, i, b, 0]]
def markH (h : List Nat) : List Nat := digest 112 [h]
def bitOf (m : List Nat) (i : Nat) : Nat := m.getD (i / 8) 0 / 2 ^ (i % 8) % 2
def mrks (seed : List Nat) (ib : Nat) : Nat → List Nat := fun i => markH (secret seed ib i 0) ++ markH (secret seed ib i 1)
def opened (seed : List Nat) (ib : Nat) (m : List Nat) : Nat → List Nat := fun i => secret seed ib i (bitOf m i)
def shutd (seed : List Nat) (ib : Nat) (m : List Nat) : Nat → List Nat := fun i => markH (secret seed ib i (1 - bitOf m i))
/-- The marks by what is opened and what is shut. -/
def turnd (m op sh : List Nat) : Nat → List Nat := fun i => if bitOf m i = 1 then pc 8 sh i ++ markH (pc 8 op i) else markH (pc 8 op i) ++ pc 8 sh i
def pubOf (all : List Nat) : List Nat := digest 107 [all]
def pubKey (seed : List Nat) (ib : Nat) : List Nat := pubOf (rowOf (mrks seed ib) 16)
def pubBy (m op sh : List Nat) : List Nat := pubOf (rowOf (turnd m op sh) 16)
theorem bitOf_lt (m : List Nat) (i : Nat) : bitOf m i < 2 := Nat.mod_lt _ (by decide)
theorem secret_len (seed : List Nat) (ib i b : Nat) : (secret seed ib i b).length = 8 := digest_len _ _
theorem secret_lt (seed : List Nat) (ib i b : Nat) : ∀ x ∈ secret seed ib i b, x < 256 := digest_lt _ _
theorem mark_len (h : List Nat) : (markH h).length = 8 := digest_len _ _
theorem mark_lt (h : List Nat) : ∀ x ∈ markH h, x < 256 := digest_lt _ _
theorem opened_len (seed : List Nat) (ib : Nat) (m : List Nat) (i : Nat) : (opened seed ib m i).length = 8 := secret_len _ _ _ _
theorem shutd_len (seed : List Nat) (ib : Nat) (m : List Nat) (i : Nat) : (shutd seed ib m i).length = 8 := mark_len _
theorem opened_lt (seed : List Nat) (ib : Nat) (m : List Nat) (i : Nat) : ∀ x ∈ opened seed ib m i, x < 256 := secret_lt _ _ _ _
theorem shutd_lt (seed : List Nat) (ib : Nat) (m : List Nat) (i : Nat) : ∀ x ∈ shutd seed ib m i, x < 256 := mark_lt _
theorem turnd_lt {m op sh : List Nat} (hs : ∀ x ∈ sh, x < 256) (i : Nat) : ∀ x ∈ turnd m op sh i, x < 256 := fun x hx => by
  unfold turnd at hx
  split at hx <;> rcases List.mem_append.1 hx with h | h
  · exact pc_lt hs i x h
  · exact mark_lt _ x h
  · exact mark_lt _ x h
  · exact pc_lt hs i x h
/-- What is signed gives the key. -/
theorem turnd_signed (seed : List Nat) (ib : Nat) (m : List Nat) (i : Nat) (hi : i < 16) : turnd m (rowOf (opened seed ib m) 16) (rowOf (shutd seed ib m) 16) i = mrks seed ib i := by
  unfold turnd
  rw [pc_rowOf (opened_len _ _ _) hi, pc_rowOf (shutd_len _ _ _) hi]
  have hb := bitOf_lt m i
  unfold opened shutd mrks
  by_cases h : bitOf m i = 1
  · rw [if_pos h, h]
  · have h0 : bitOf m i = 0 := by omega
    rw [if_neg h, h0]
theorem pubBy_signed (seed : List Nat) (ib : Nat) (m : List Nat) : pubBy m (rowOf (opened seed ib m) 16) (rowOf (shutd seed ib m) 16) = pubKey seed ib := by
  unfold pubBy pubKey
  rw [rowOf_congr (fun i hi => turnd_signed seed ib m i hi)]
end Go.Sha
end
section
/- Pieces of rows of bytes; pointers; calls that make a block. -/
namespace Go.Vc
open Go Go.Sha
theorem u8s_extract (l : List Nat) (a b : Nat) : (u8s l).toArray.extract a b = (u8s ((l.drop a).take (b - a))).toArray := by
  apply Array.ext'
  rw [Array.toList_extract, u8s_take, u8s_drop]

section
variable {P : Program} {n : Nat} {w0 : World} {S0 : List Nat} {Q : Exit → Act → World → Prop} {E : Env} {L : Hp} {o : Oper} {d : Nat} {T : List (Nat × TI)} {t : Nat} {ti : TI} {ops : Array Oper}
theorem Val.indexU (hT : TabOk P T) (j : Nat) {x y : Operand} {len el : Nat} {k : IntKind} {z : Int} {ei : TI} {l : List Nat} {c : Nat} (ho : o.op = .index t x y) (ht : tiGet T t = some ti) (hd : ti.desc = .array len el) (he : tiGet T el = some ei) (hea : TypeDesc.agg ei.desc = true)
    (hx : lk E x = some (.agg (u8s l).toArray)) (hy : lk E y = some (.int k z)) (hz : z = j) (h1 : j < len) (hc : ei.size = c) : Val P n w0 S0 E L o (.agg (u8s (pc c l j)).toArray) := by
  subst hc
  refine Val.indexN hT j ho ht hd he hx hy hz h1 ?_
  simp only [partOf, hea, cond_true, u8s_extract, pc]
  rw [Nat.add_sub_cancel_left]
theorem Val.loadPc (hT : TabOk P T) (i : Nat) {x : Operand} {b off : Nat} {l : List Nat} {c : Nat} {e : TypeId} {fz : Nat × Nat} (ho : o.op = .load t x) (ht : tiGet T t = some ti)
    (hx : lk E x = some (.pointer (some ⟨b, off, none⟩))) (ha : TypeDesc.agg ti.desc = true) (hm : (b, .cells (u8s l).toArray e fz) ∈ L) (hoff : off = i * c) (hc : ti.size = c) (hl : (pc c l i).length = c) : Val P n w0 S0 E L o (.agg (u8s (pc c l i)).toArray) := by
  subst hoff
  exact Val.loadR hT ho ht hx ha (by rw [u8s_len, hl, hc]) (Rd.row hm (pc_row i))
/-- p == nil -/
theorem Val.ptrNil (hT : TabOk P T) {x y : Operand} {a : Addr} {el t2 : Nat} (ho : o.op = .binOp .eql t x y t2) (ht : tiGet T t = some ti) (hd : ti.desc = .pointer el) (hx : lk E x = some (.pointer (some a))) (hy : lk E y = some (.pointer none)) :
    Val P n w0 S0 E L o (.bool false) := by
  intro ac w hs _
  have h2 := (hT _ _ ht).1
  rw [hd] at h2
  have h3 : P.underlying t = some (.pointer (P.pointee t)) := by rw [h2]; simp [Program.pointee, h2]
  have hg : (eqGuard .eql t x y (.pointer (some a)) (.pointer none)).run P w = .ok () w := by simp [eqGuard]
  simp [execOp, ho, hs.eval hx, hs.eval hy, hg, run_eql_pointer_nil w t (some a) h3]

theorem RC.thenCut {x y : Code} {Q' : Exit → Act → World → Prop} {Y : Type} (Ey : Y → Env) (Ly : Y → Hp) (h : RC P n w0 S0 x (To n w0 S0 Ey Ly) E L) (k : ∀ i, RC P n w0 S0 y Q (Ey i) (Ly i)) : RC P n w0 S0 x (Exit.then (y.wp P Q) Q') E L :=
  fun a w hs hm => wp_mono (h a w hs hm) fun e a w q => by
    cases e with
    | normal => obtain ⟨i, h1, h2⟩ := q; exact k i a w h1 h2
    | _ => exact q.elim
/-- It makes a block, and gives a value that hangs on it. -/
def NewOf (P : Program) (f : FuncId) (vs : List Value) (w : World) (V : Nat → Value) (ob : Obj) : Prop :=
  Calls P f vs.toArray w fun e w' => ∃ b, e = .returned (V b) ∧ Fr [] w w' ∧ w'.heap[b]? = some ob ∧ w.heap.size ≤ b
theorem OpTo.callNew {f : FuncId} {xs : List Operand} {ts : Array TypeId} {fn : Func} {vs : List Value} {V : Nat → Value} {ob : Obj} (hf : P.funcs[f]? = some fn) (hd : o.dst = some d) (hn : Nat.blt d n = true)
    (ho : o.op = .call { callee := .value (.func f), args := xs.toArray, argTypes := ts }) (hnm : (fn.name == "runtime.NumGoroutine") = false) (hb : fn.body.isNone = false)
    (hx : lkAll E xs = some vs) (hc : ∀ w, Mem w0 S0 L w → NewOf P f vs w V ob) : OpTo P n w0 S0 Q E L o (Y := Nat) (fun b => (d, V b) :: E) (fun b => (b, ob) :: L) :=
  OpTo.call (Y := Nat) (V := V) (L' := fun b => (b, ob) :: L) hf hd hn ho hnm hb hx (fun w hm => (hc w hm).mono (by
    rintro e' w' ⟨b, rfl, hfr, hbl, hsz⟩
    exact ⟨b, rfl, hm.add (N := [(b, ob)]) hfr (fun p hp => by rw [List.mem_singleton] at hp; subst hp; exact hbl) (fun p hp => by rw [List.mem_singleton] at hp; subst hp; exact hsz) (by simp)⟩))
theorem NewOf.of {V : Nat → Value} {ob : Obj} {b : Nat} {w : World} {L' : Hp} (hm : Mem w0 [] L' w) (h : (b, ob) ∈ L') : ∃ b', Ending.returned (V b) = .returned (V b') ∧ Fr [] w0 w ∧ w.heap[b']? = some ob ∧ w0.heap.size ≤ b' :=
  ⟨b, rfl, hm.fr, hm.has _ h, (hm.own _ h).resolve_right (by simp)⟩
/-- A block that stands as it was. -/
theorem Mem.old {b : Nat} {ob : Obj} {w : World} (hm : Mem w0 [] L w) (h : w0.heap[b]? = some ob) : w.heap[b]? = some ob :=
  (hm.fr.block b (Array.getElem?_eq_some_iff.1 h).1 (by simp)).trans h
end
end Go.Vc
end
section
/- Maps whose keys are whole numbers: made, set, counted. -/
namespace Go.Vc
open Go Go.Sha
def insI (z : Int) (ks : List Int) : List Int := if z ∈ ks then ks else ks ++ [z]
section
variable {P : Program} {n : Nat} {w0 : World} {S0 : List Nat} {Q : Exit → Act → World → Prop} {E : Env} {L : Hp} {o : Oper} {d : Nat} {T : List (Nat × TI)} {t : Nat} {ti : TI}
end
end Go.Vc
end
