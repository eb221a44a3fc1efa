/- Rules for the operations that compute, load, store and make memory. -/
import Derived.Test.YtilfbomjaflbjaaDoorVcA
namespace Go.Vc
open Go

def evBin (op : BinOp) : Value → Value → Option Value
  | .int k a, .int k' b =>
    match op with
    | .shl => if b < 0 then none else some (.int k (k.wrap (a * 2 ^ min b.toNat k.bits)))
    | .shr => if b < 0 then none else some (.int k (a.fdiv (2 ^ min b.toNat k.bits)))
    | .add => if k = k' then some (.int k (k.wrap (a + b))) else none
    | .sub => if k = k' then some (.int k (k.wrap (a - b))) else none
    | .mul => if k = k' then some (.int k (k.wrap (a * b))) else none
    | .quo => if k = k' then (if b = 0 then none else some (.int k (k.wrap (a.tdiv b)))) else none
    | .rem => if k = k' then (if b = 0 then none else some (.int k (a.tmod b))) else none
    | .and => if k = k' then some (.int k (k.wrap (BitVec.ofInt k.bits a &&& BitVec.ofInt k.bits b).toNat)) else none
    | .or => if k = k' then some (.int k (k.wrap (BitVec.ofInt k.bits a ||| BitVec.ofInt k.bits b).toNat)) else none
    | .xor => if k = k' then some (.int k (k.wrap (BitVec.ofInt k.bits a ^^^ BitVec.ofInt k.bits b).toNat)) else none
    | .andNot => if k = k' then some (.int k (k.wrap (BitVec.ofInt k.bits a &&& ~~~BitVec.ofInt k.bits b).toNat)) else none
    | .eql => if k = k' then some (.bool (a == b)) else none
    | .neq => if k = k' then some (.bool (a != b)) else none
    | .lss => if k = k' then some (.bool (a < b)) else none
    | .leq => if k = k' then some (.bool (a ≤ b)) else none
    | .gtr => if k = k' then some (.bool (a > b)) else none
    | .geq => if k = k' then some (.bool (a ≥ b)) else none
  | _, _ => none

def ev (E : Env) : Op → Option Value
  | .move x | .assign x => lk E x
  | .pick c a b => match lk E c, lk E a, lk E b with
    | some (.bool t), some x, some y => some (bif t then x else y)
    | _, _, _ => none
  | .nilCheck x => match lk E x with
    | some (.pointer (some a)) => some (.pointer (some a))
    | _ => none
  | .binOp op _ x y _ => match lk E x, lk E y with
    | some u, some v => evBin op u v
    | _, _ => none
  | .unOp .not _ x => match lk E x with
    | some (.bool b) => some (.bool !b)
    | _ => none
  | .unOp .neg _ x => match lk E x with
    | some (.int k n) => some (.int k (k.wrap (0 - n)))
    | _ => none
  | .unOp .xor _ x => match lk E x with
    | some (.int k n) => some (.int k (k.wrap (BitVec.ofInt k.bits (if k.signed then -1 else k.max) ^^^ BitVec.ofInt k.bits n).toNat))
    | _ => none
  | .extract t i => match lk E t with
    | some (.tuple vs) => vs[i]?
    | _ => none
  | _ => none

theorem run_evBin {P : Program} {op : BinOp} {t : TypeId} {u v x : Value} (h : evBin op u v = some x) (w : World) :
    (binOp op t u v).run P w = .ok x w := by
  unfold evBin at h
  split at h
  · split at h
    all_goals (repeat' split at h)
    all_goals first | cases h; done | skip
    all_goals cases h
    all_goals simp_all [binOp, Op.shift, Op.intArith, Op.intDiv, Op.intBits, Op.intCmp]
    all_goals omega
  · cases h

theorem eqGuard_int {P : Program} (op : BinOp) (t : TypeId) (x y : Operand) (k k' : IntKind) (a b : Int) (w : World) :
    (eqGuard op t x y (.int k a) (.int k' b)).run P w = .ok () w := by
  cases op <;> simp [eqGuard]

theorem run_ev {P : Program} {n : Nat} {E : Env} {o : Oper} {v : Value} (h : ev E o.op = some v) {a : Act} (hs : St n E a) (w : World) :
    (execOp a.eval o).run P w = .ok (.value v) w := by
  unfold execOp
  generalize ho : o.op = op at h ⊢
  cases op
  case move x => simp [hs.eval h]
  case assign x => simp [hs.eval h]
  case pick c x y =>
    simp only [ev] at h
    split at h
    · rename_i t x' y' hc hx hy
      cases h
      cases t <;> simp [hs.eval hc, hs.eval hx, hs.eval hy, asBool]
    · cases h
  case nilCheck x =>
    simp only [ev] at h
    split at h
    · rename_i ad hx; cases h; simp [hs.eval hx]
    · cases h
  case binOp op t x y ty =>
    simp only [ev] at h
    split at h
    · rename_i u v' hx hy
      have hr := run_evBin (P := P) (t := t) h w
      have hg : (eqGuard op t x y u v').run P w = .ok () w := by
        unfold evBin at h
        split at h
        · exact eqGuard_int ..
        · cases h
      simp [hs.eval hx, hs.eval hy, hr, hg]
    · cases h
  case unOp op t x =>
    cases op <;> simp only [ev] at h <;> (try (cases h; done)) <;> split at h <;> (try (cases h; done))
    all_goals rename_i hx; cases h
    all_goals simp [hs.eval hx, Op.unary, Op.intArith, Op.intBits]
  case extract t i =>
    simp only [ev] at h
    split at h
    · rename_i vs hx; simp [hs.eval hx, Instr.extract, h]
    · cases h
  all_goals simp [ev] at h

section
variable {P : Program} {n : Nat} {w0 : World} {S0 : List Nat} {Q : Exit → Act → World → Prop} {E : Env} {L : Hp} {ops rest : List Oper} {o : Oper} {d : Nat}

theorem Run.nil (h : RQ n w0 S0 .normal Q E L) : Run P n w0 S0 ops.toArray Q [] E L := fun a w hs hm => h a w hs hm

/-- An operation that leaves a value and the world as it is. -/
theorem Run.val (hg : o.guard = none) (hd : o.dst = some d) (hn : Nat.blt d n = true) {v : Value}
    (hr : ∀ a w, St n E a → Mem w0 S0 L w → (execOp a.eval o).run P w = .ok (.value v) w)
    (k : Run P n w0 S0 ops.toArray Q rest ((d, v) :: E) L) : Run P n w0 S0 ops.toArray Q (o :: rest) E L := by
  intro a w hs hm
  refine wpList_plain hg fun K hK => ?_
  simp only [Oper.wp, hr a w hs hm, Oper.upon_value, hd]
  exact hK _ _ (k _ _ (hs.put hn v) hm)

theorem Run.pure (hg : o.guard = none) (hd : o.dst = some d) (hn : Nat.blt d n = true) {v : Value} (he : ev E o.op = some v)
    (k : Run P n w0 S0 ops.toArray Q rest ((d, v) :: E) L) : Run P n w0 S0 ops.toArray Q (o :: rest) E L :=
  Run.val hg hd hn (fun _ w hs _ => run_ev he hs w) k

/-- An operation that leaves a value and makes one block. -/
theorem Run.new (hg : o.guard = none) (hd : o.dst = some d) (hn : Nat.blt d n = true) {V : Nat → Value} {ob : Obj}
    (hr : ∀ a w, St n E a → Mem w0 S0 L w → ∃ w1, Fr [] w w1 ∧ w1.heap.size = w.heap.size ∧ (execOp a.eval o).run P w = .ok (.value (V w.heap.size)) (w1.alloc ob))
    (k : ∀ b, Run P n w0 S0 ops.toArray Q rest ((d, V b) :: E) ((b, ob) :: L)) : Run P n w0 S0 ops.toArray Q (o :: rest) E L := by
  intro a w hs hm
  obtain ⟨w1, hf, hz, hr⟩ := hr a w hs hm
  refine wpList_plain hg fun K hK => ?_
  simp only [Oper.wp, hr, Oper.upon_value, hd]
  have := (hm.ext hf).alloc ob
  rw [hz] at this
  exact hK _ _ (k _ _ _ (hs.put hn _) this)

/-- An operation that leaves nothing and writes the first block that is listed. -/
theorem Run.put (hg : o.guard = none) (hd : o.dst = none) {b : Nat} {ob ob' : Obj} {L' : Hp}
    (hL : L.Perm ((b, ob) :: L'))
    (hr : ∀ a w, St n E a → w.heap[b]? = some ob → ∃ w', (execOp a.eval o).run P w = .ok .skip w' ∧ Fr [b] w w' ∧ w'.heap[b]? = some ob')
    (k : Run P n w0 S0 ops.toArray Q rest E ((b, ob') :: L')) : Run P n w0 S0 ops.toArray Q (o :: rest) E L := by
  intro a w hs hm
  have hm' := hm.perm hL
  obtain ⟨w', hr, hf, hb⟩ := hr a w hs (hm'.has _ (List.mem_cons_self))
  refine wpList_plain hg fun K hK => ?_
  simp only [Oper.wp, hr, Oper.upon_skip, hd]
  exact hK _ _ (k _ _ hs (hm'.write hf hb))


def lkAll (E : Env) : List Operand → Option (List Value)
  | [] => some []
  | x :: r => match lk E x, lkAll E r with
    | some v, some vs => some (v :: vs)
    | _, _ => none

theorem St.evalAll {E : Env} {a : Act} (h : St n E a) : ∀ {xs : List Operand} {vs : List Value}, lkAll E xs = some vs → xs.map a.eval = vs
  | [], _, hl => by cases hl; rfl
  | x :: r, _, hl => by
    simp only [lkAll] at hl
    split at hl
    · rename_i v vs hx hr
      cases hl
      simp [h.eval hx, St.evalAll h hr]
    · cases hl

/-- What a call of a function by its name enters. -/
theorem run_call {a : Act} {f : FuncId} {xs : List Operand} {ts : Array TypeId} {fn : Func} {vs : List Value} (hs : St n E a)
    (ho : o.op = .call { callee := .value (.func f), args := xs.toArray, argTypes := ts }) (hf : P.funcs[f]? = some fn) (hnm : (fn.name == "runtime.NumGoroutine") = false) (hb : fn.body.isNone = false)
    (hx : lkAll E xs = some vs) (w : World) : (execOp a.eval o).run P w = .ok (.enter f vs.toArray) w := by
  have hv := hs.evalAll hx
  have hn' : ¬ fn.name = "runtime.NumGoroutine" := by simpa using hnm
  have hb' : ¬ fn.body = none := by intro h; rw [h] at hb; cases hb
  simp [execOp, ho, resolve, Act.eval, Deferred.ofValue, invoke, callFunc, hf, hn', hb', ← hv]

/-- A call: by the callee's contract, from whatever world of which so much is known. -/
theorem Run.call {f : FuncId} {xs : List Operand} {ts : Array TypeId} {fn : Func} {vs : List Value} (hf : P.funcs[f]? = some fn) (hg : o.guard = none) (hd : o.dst = some d) (hn : Nat.blt d n = true)
    (ho : o.op = .call { callee := .value (.func f), args := xs.toArray, argTypes := ts }) (hnm : (fn.name == "runtime.NumGoroutine") = false) (hb : fn.body.isNone = false)
    (hx : lkAll E xs = some vs) {Y : Type} {V : Y → Value} {L' : Y → Hp}
    (hc : ∀ w, Mem w0 S0 L w → Calls P f vs.toArray w fun e w' => ∃ y, e = .returned (V y) ∧ Mem w0 S0 (L' y) w')
    (k : ∀ y, Run P n w0 S0 ops.toArray Q rest ((d, V y) :: E) (L' y)) : Run P n w0 S0 ops.toArray Q (o :: rest) E L := by
  intro a w hs hm
  refine wpList_plain hg fun K hK => ?_
  simp only [Oper.wp, run_call hs ho hf hnm hb hx, Oper.upon_enter]
  refine (hc w hm).mono ?_
  rintro e w' ⟨y, rfl, hm'⟩
  simp only [hd]
  exact hK _ _ (k y _ _ (hs.put hn _) hm')

/-- It gives v, and turns nothing old. -/
def Gives (P : Program) (f : FuncId) (vs : List Value) (v : Value) (w : World) : Prop :=
  Calls P f vs.toArray w fun e w' => e = .returned v ∧ Fr [] w w'

/-- A call whose value is known, and that turns nothing old. -/
theorem Run.callV {f : FuncId} {xs : List Operand} {ts : Array TypeId} {fn : Func} {vs : List Value} {v : Value} (hf : P.funcs[f]? = some fn) (hg : o.guard = none) (hd : o.dst = some d) (hn : Nat.blt d n = true)
    (ho : o.op = .call { callee := .value (.func f), args := xs.toArray, argTypes := ts }) (hnm : (fn.name == "runtime.NumGoroutine") = false) (hb : fn.body.isNone = false)
    (hx : lkAll E xs = some vs) (hc : ∀ w, Mem w0 S0 L w → Gives P f vs v w)
    (k : Run P n w0 S0 ops.toArray Q rest ((d, v) :: E) L) : Run P n w0 S0 ops.toArray Q (o :: rest) E L :=
  Run.call hf hg hd hn ho hnm hb hx (Y := Unit) (V := fun _ => v) (L' := fun _ => L)
    (fun w hm => (hc w hm).mono (by rintro e w' ⟨rfl, hfr⟩; exact ⟨(), rfl, hm.ext hfr⟩)) (fun _ => k)
end
end Go.Vc
