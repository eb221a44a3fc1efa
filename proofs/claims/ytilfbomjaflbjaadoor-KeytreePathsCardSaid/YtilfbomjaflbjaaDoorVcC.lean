/- Values of operations that hang on types; loads, stores, new memory. -/
import Derived.Test.YtilfbomjaflbjaaDoorVcB
namespace Go.Vc
open Go

structure TI where
  desc : TypeDesc
  size : Nat
  bytes : Nat
  zero : Value

def tiGet : List (Nat × TI) → Nat → Option TI
  | [], _ => none
  | (i, v) :: r, t => bif Nat.beq i t then some v else tiGet r t

/-- The table's rows are the program's. -/
def Ty (P : Program) (t : Nat) (ti : TI) : Prop :=
  P.underlying t = some ti.desc ∧ ∃ i, P.info? t = some i ∧ i.size = ti.size ∧ i.bytes = ti.bytes ∧ i.zero = some ti.zero
def TabOk (P : Program) (T : List (Nat × TI)) : Prop := ∀ t ti, tiGet T t = some ti → Ty P t ti

theorem TabOk.nil {P : Program} : TabOk P [] := fun _ _ h => by cases h
theorem TabOk.cons {P : Program} {t : Nat} {ti : TI} {T : List (Nat × TI)} (h : Ty P t ti) (k : TabOk P T) : TabOk P ((t, ti) :: T) := by
  intro u ui hu
  simp only [tiGet] at hu
  by_cases e : t = u
  · subst e; simp at hu; subst hu; exact h
  · have : Nat.beq t u = false := by rw [Bool.eq_false_iff]; intro h'; exact e (Nat.eq_of_beq_eq_true h')
    rw [this] at hu; exact k u ui hu

theorem Ty.mk' {P : Program} {t : Nat} {ti : TI} (h : P.underlying t = some ti.desc) (k : (P.info? t).map (fun i => (i.size, i.bytes, i.zero)) = some (ti.size, ti.bytes, some ti.zero)) : Ty P t ti := by
  refine ⟨h, ?_⟩
  cases hi : P.info? t with
  | none => rw [hi] at k; cases k
  | some i => rw [hi] at k; simp only [Option.map_some, Option.some.injEq, Prod.mk.injEq] at k; exact ⟨i, rfl, k.1, k.2.1, k.2.2⟩

def TypeDesc.agg : TypeDesc → Bool
  | .struct _ | .array _ _ => true
  | _ => false

section
variable {P : Program} {t : Nat} {ti : TI}
theorem Ty.size (h : Ty P t ti) (w : World) : (sizeOf t).run P w = .ok ti.size w := by
  obtain ⟨_, i, hi, hs, _, _⟩ := h
  simp [Go.sizeOf, typeInfo, hi, hs]
theorem Ty.zero (h : Ty P t ti) (w : World) : (zeroValue t).run P w = .ok ti.zero w := by
  obtain ⟨_, i, hi, _, _, hz⟩ := h
  simp [zeroValue, typeInfo, hi, hz]
theorem Ty.isAgg (h : Ty P t ti) (w : World) : (isAgg t).run P w = .ok (TypeDesc.agg ti.desc) w := by
  unfold Go.isAgg
  rw [Sem.run_bind, run_underlying h.1 w]
  cases ti.desc <;> simp [TypeDesc.agg]

theorem add_add (a : Addr) (i j : Nat) : (a.add i).add j = a.add (i + j) := by
  unfold Addr.add
  by_cases hi : i = 0 <;> by_cases hj : j = 0 <;> simp [hi, hj, Nat.add_assoc]
theorem add_lit (b o j : Nat) : (⟨b, o, none⟩ : Addr).add j = ⟨b, o + j, none⟩ := by
  unfold Addr.add
  by_cases hj : j = 0 <;> simp [hj]

theorem run_loadVar_agg (h : Ty P t ti) (ha : TypeDesc.agg ti.desc = true) (w : World) (a : Addr) (cs : List Value) (hl : cs.length = ti.size)
    (hc : ∀ j v, cs[j]? = some v → w.cell? (a.add j) = some v) : (loadVar t a).run P w = .ok (.agg cs.toArray) w := by
  have hr := run_loadCells_list (P := P) w a cs hc
  rw [hl] at hr
  simp [loadVar, h.isAgg, ha, h.size, hr]
theorem run_loadVar_one (h : Ty P t ti) (ha : TypeDesc.agg ti.desc = false) (w : World) (a : Addr) (v : Value)
    (hc : w.cell? a = some v) : (loadVar t a).run P w = .ok v w := by
  simp [loadVar, h.isAgg, ha, load, Sem.run, hc]

/-- What a variable of the type holds that begins at a place of a row. -/
def rdAt (ti : TI) (arr : Array Value) (off : Nat) : Option Value :=
  bif TypeDesc.agg ti.desc then (bif Nat.ble (off + ti.size) arr.size then some (.agg (arr.extract off (off + ti.size))) else none) else arr[off]?

theorem run_loadVar_at (h : Ty P t ti) (w : World) {b off : Nat} {arr : Array Value} {e : TypeId} {fz : Nat × Nat} {v : Value} (hb : w.heap[b]? = some (.cells arr e fz))
    (hv : rdAt ti arr off = some v) : (loadVar t ⟨b, off, none⟩).run P w = .ok v w := by
  unfold rdAt at hv
  cases ha : TypeDesc.agg ti.desc with
  | false =>
    simp only [ha, cond_false] at hv
    exact run_loadVar_one h ha w _ v (by rw [cell_of_row w b off arr e fz hb]; exact hv)
  | true =>
    simp only [ha, cond_true] at hv
    cases hf : Nat.ble (off + ti.size) arr.size with
    | false => simp [hf] at hv
    | true =>
      have hf' : off + ti.size ≤ arr.size := Nat.le_of_ble_eq_true hf
      simp only [hf, cond_true, Option.some.injEq] at hv
      subst hv
      have := run_loadVar_agg (P := P) h ha w ⟨b, off, none⟩ (arr.extract off (off + ti.size)).toList (by simp; omega) (fun j v hj => by
        rw [add_lit, cell_of_row w b (off + j) arr e fz hb]
        rw [Array.getElem?_toList, Array.getElem?_extract] at hj
        split at hj
        · exact hj
        · cases hj)
      rw [Array.toArray_toList] at this
      exact this

theorem run_loadVar_all (h : Ty P t ti) (ha : TypeDesc.agg ti.desc = true) (w : World) {b : Nat} {arr : Array Value} {e : TypeId} {fz : Nat × Nat} (hb : w.heap[b]? = some (.cells arr e fz))
    (hs : arr.size = ti.size) : (loadVar t ⟨b, 0, none⟩).run P w = .ok (.agg arr) w := by
  have := run_loadVar_agg (P := P) h ha w ⟨b, 0, none⟩ arr.toList (by simpa using hs) (fun j v hj => by
        rw [add_lit, cell_of_row w b (0 + j) arr e fz hb]
        simpa using hj)
  simpa using this

/-- The row behind a store of cells at a place. -/
def wrAt (arr : Array Value) (off : Nat) (cs : List Value) : Array Value := (arr.toList.take off ++ cs ++ arr.toList.drop (off + cs.length)).toArray

theorem Fr.setRow (w : World) (g : Nat) (cs : Array Value) : Fr [g] w (w.setRow g cs) :=
  ⟨rfl, rfl, rfl, by simp, fun k _ hk => setRow_other w g k cs (by simpa using hk)⟩

theorem run_storeVar_at (h : Ty P t ti) (w : World) {b off : Nat} {arr : Array Value} {e : TypeId} {v : Value} (hb : w.heap[b]? = some (.cells arr e (0, 0)))
    (hs : v.cells.size = ti.size) (hf : off + ti.size ≤ arr.size) (h1 : ∀ u ∈ v.cells.toList, u.oneCell' = true) :
    (storeVar t ⟨b, off, none⟩ v).run P w = .ok () (w.setRow b (wrAt arr off v.cells.toList)) := by
  have hst := run_storeCells_at P b off e v.cells.toList 0 arr w hb (by simp; omega) h1
  simp only [Nat.add_zero] at hst
  simp only [storeVar, Sem.run_bind, h.size, Result.andThen_ok, hs, ne_eq, not_true_eq_false, if_false]
  exact hst
end

section
variable (P : Program) (n : Nat) (w0 : World) (S0 : List Nat) (E : Env) (L : Hp)
/-- The operation leaves v, and the world as it is. -/
def Val (o : Oper) (v : Value) : Prop := ∀ a w, St n E a → Mem w0 S0 L w → (execOp a.eval o).run P w = .ok (.value v) w
/-- The operation leaves a value that hangs on one new block, and makes it. -/
def New (o : Oper) (V : Nat → Value) (ob : Obj) : Prop := ∀ a w, St n E a → Mem w0 S0 L w → ∃ w1, Fr [] w w1 ∧ w1.heap.size = w.heap.size ∧ (execOp a.eval o).run P w = .ok (.value (V w.heap.size)) (w1.alloc ob)
end

section
variable {P : Program} {n : Nat} {w0 : World} {S0 : List Nat} {Q : Exit → Act → World → Prop} {E : Env} {L : Hp} {ops rest : List Oper} {o : Oper} {d : Nat} {T : List (Nat × TI)} {t : Nat} {ti : TI}

theorem Val.eq {v v' : Value} (h : Val P n w0 S0 E L o v) (e : v = v') : Val P n w0 S0 E L o v' := e ▸ h
theorem Val.of {v : Value} (he : ev E o.op = some v) : Val P n w0 S0 E L o v := fun _ w hs _ => run_ev he hs w

theorem Run.v (hg : o.guard = none) (hd : o.dst = some d) (hn : Nat.blt d n = true) {v : Value} (h : Val P n w0 S0 E L o v)
    (k : Run P n w0 S0 ops.toArray Q rest ((d, v) :: E) L) : Run P n w0 S0 ops.toArray Q (o :: rest) E L := Run.val hg hd hn h k
theorem Run.mk (hg : o.guard = none) (hd : o.dst = some d) (hn : Nat.blt d n = true) {V : Nat → Value} {ob : Obj} (h : New P n w0 S0 E L o V ob)
    (k : ∀ b, Run P n w0 S0 ops.toArray Q rest ((d, V b) :: E) ((b, ob) :: L)) : Run P n w0 S0 ops.toArray Q (o :: rest) E L := Run.new hg hd hn h k

/-- Numbers that do not leave their kind: what is reckoned stands bare. -/
def inK : IntKind → Int → Prop
  | .i64, z => -9223372036854775808 ≤ z ∧ z ≤ 9223372036854775807
  | .i32, z => -2147483648 ≤ z ∧ z ≤ 2147483647
  | .i16, z => -32768 ≤ z ∧ z ≤ 32767
  | .i8, z => -128 ≤ z ∧ z ≤ 127
  | .u64, z => 0 ≤ z ∧ z ≤ 18446744073709551615
  | .u32, z => 0 ≤ z ∧ z ≤ 4294967295
  | .u16, z => 0 ≤ z ∧ z ≤ 65535
  | .u8, z => 0 ≤ z ∧ z ≤ 255
theorem wrap_in {k : IntKind} {z : Int} (h : inK k z) : k.wrap z = z := by
  cases k <;> simp only [inK] at h <;> simp [IntKind.wrap, IntKind.bits, IntKind.signed] <;> omega

def evAr (op : BinOp) (u v : Value) : Option (IntKind × Int) :=
  match op, u, v with
  | .add, .int k a, .int k' b => if k = k' then some (k, a + b) else none
  | .sub, .int k a, .int k' b => if k = k' then some (k, a - b) else none
  | .mul, .int k a, .int k' b => if k = k' then some (k, a * b) else none
  | .shl, .int k a, .int _ b => if b < 0 then none else some (k, a * 2 ^ min b.toNat k.bits)
  | _, _, _ => none
theorem Val.ar {op : BinOp} {t1 t2 : Nat} {x y : Operand} {u v : Value} {k : IntKind} {z : Int} (ho : o.op = .binOp op t1 x y t2) (hx : lk E x = some u) (hy : lk E y = some v)
    (he : evAr op u v = some (k, z)) (hz : inK k z) : Val P n w0 S0 E L o (.int k z) := by
  refine Val.of ?_
  have : evBin op u v = some (.int k (k.wrap z)) := by
    unfold evAr at he
    split at he
    all_goals first | (cases he; done) | skip
    all_goals split at he
    all_goals first | (cases he; done) | skip
    all_goals cases he
    all_goals simp_all [evBin]
  rw [ho]
  simp [ev, hx, hy, this, wrap_in hz]

theorem Val.shl {t1 t2 : Nat} {x y : Operand} {k k2 : IntKind} {a m : Nat} (ho : o.op = .binOp .shl t1 x y t2) (hx : lk E x = some (.int k a)) (hy : lk E y = some (.int k2 m)) (hm : m ≤ k.bits) :
    Val P n w0 S0 E L o (.int k (k.wrap ((a * 2 ^ m : Nat) : Int))) := by
  refine Val.of ?_
  have h1 : ¬ (m : Int) < 0 := by omega
  have h2 : min ((m : Int)).toNat k.bits = m := by simp; omega
  rw [ho]
  simp only [ev, hx, hy, evBin, h1, if_false, h2]
  rfl
theorem Val.shr {t1 t2 : Nat} {x y : Operand} {k k2 : IntKind} {a m : Nat} (ho : o.op = .binOp .shr t1 x y t2) (hx : lk E x = some (.int k a)) (hy : lk E y = some (.int k2 m)) (hm : m ≤ k.bits) :
    Val P n w0 S0 E L o (.int k ((a / 2 ^ m : Nat) : Int)) := by
  refine Val.of ?_
  have h1 : ¬ (m : Int) < 0 := by omega
  have h2 : min ((m : Int)).toNat k.bits = m := by simp; omega
  rw [ho]
  simp only [ev, hx, hy, evBin, h1, if_false, h2]
  congr 2
  rw [Int.fdiv_eq_ediv_of_nonneg _ (Int.le_of_lt (Int.pow_pos (by decide)))]
  rfl

theorem Val.conv (hT : TabOk P T) {s c : Nat} {x : Operand} {k k' : IntKind} {z : Int} {si : TI} (ho : o.op = .convert s c x) (hs : tiGet T s = some si) (hsd : si.desc = .int k')
    (ht : tiGet T c = some ti) (hd : ti.desc = .int k) (hx : lk E x = some (.int k' z)) : Val P n w0 S0 E L o (.int k (k.wrap z)) := by
  intro a w hst _
  have h1 := (hT _ _ hs).1
  have h2 := (hT _ _ ht).1
  rw [hsd] at h1
  rw [hd] at h2
  simp [execOp, ho, hst.eval hx, convert, run_underlying h1, run_underlying h2, Conv.intToInt]
theorem Val.convIn (hT : TabOk P T) {s c : Nat} {x : Operand} {k k' : IntKind} {z : Int} {si : TI} (ho : o.op = .convert s c x) (hs : tiGet T s = some si) (hsd : si.desc = .int k')
    (ht : tiGet T c = some ti) (hd : ti.desc = .int k) (hx : lk E x = some (.int k' z)) (hz : inK k z) : Val P n w0 S0 E L o (.int k z) := by
  have := Val.conv (P := P) (n := n) (w0 := w0) (S0 := S0) (L := L) hT ho hs hsd ht hd hx
  rwa [wrap_in hz] at this

theorem Val.load (hT : TabOk P T) {x : Operand} {b off : Nat} {arr : Array Value} {e : TypeId} {fz : Nat × Nat} {v : Value} (ho : o.op = .load t x) (ht : tiGet T t = some ti)
    (hx : lk E x = some (.pointer (some ⟨b, off, none⟩))) (hm : (b, .cells arr e fz) ∈ L) (hv : rdAt ti arr off = some v) : Val P n w0 S0 E L o v := by
  intro a w hs hmem
  have := run_loadVar_at (P := P) (hT _ _ ht) w (hmem.has _ hm) hv
  simp [execOp, ho, hs.eval hx, Instr.loadAt, Instr.sureAddr, this]
theorem Val.loadAll (hT : TabOk P T) {x : Operand} {b : Nat} {arr : Array Value} {e : TypeId} {fz : Nat × Nat} (ho : o.op = .load t x) (ht : tiGet T t = some ti)
    (hx : lk E x = some (.pointer (some ⟨b, 0, none⟩))) (ha : TypeDesc.agg ti.desc = true) (hm : (b, .cells arr e fz) ∈ L) (hv : arr.size = ti.size) : Val P n w0 S0 E L o (.agg arr) := by
  intro a w hs hmem
  have := run_loadVar_all (P := P) (hT _ _ ht) ha w (hmem.has _ hm) hv
  simp [execOp, ho, hs.eval hx, Instr.loadAt, Instr.sureAddr, this]
/-- A load from memory that stood at the beginning. -/
theorem Val.loadOld (hT : TabOk P T) {x : Operand} {ad : Addr} {cs : List Value} (ho : o.op = .load t x) (ht : tiGet T t = some ti)
    (hx : lk E x = some (.pointer (some ad))) (ha : TypeDesc.agg ti.desc = true) (hS : ad.block ∉ S0) (hl : cs.length = ti.size) (hc : ∀ j v, cs[j]? = some v → w0.cell? (ad.add j) = some v) :
    Val P n w0 S0 E L o (.agg cs.toArray) := by
  intro a w hs hmem
  have := run_loadVar_agg (P := P) (hT _ _ ht) ha w ad cs hl (fun j v hj => hmem.fr.cell (by rw [show (ad.add j).block = ad.block by unfold Addr.add; split <;> rfl]; exact hS) (hc j v hj))
  simp [execOp, ho, hs.eval hx, Instr.loadAt, Instr.sureAddr, this]
theorem Val.loadOld1 (hT : TabOk P T) {x : Operand} {ad : Addr} {v : Value} (ho : o.op = .load t x) (ht : tiGet T t = some ti)
    (hx : lk E x = some (.pointer (some ad))) (ha : TypeDesc.agg ti.desc = false) (hS : ad.block ∉ S0) (hc : w0.cell? ad = some v) :
    Val P n w0 S0 E L o v := by
  intro a w hs hmem
  have := run_loadVar_one (P := P) (hT _ _ ht) ha w ad v (hmem.fr.cell hS hc)
  simp [execOp, ho, hs.eval hx, Instr.loadAt, Instr.sureAddr, this]

/-- A store into the row that is listed. -/
theorem Run.store (hT : TabOk P T) (hg : o.guard = none) (hd : o.dst = none) {x y : Operand} {b off : Nat} {arr : Array Value} {e : TypeId} {v : Value} {L' : Hp} (ho : o.op = .store t x y) (ht : tiGet T t = some ti)
    (hx : lk E x = some (.pointer (some ⟨b, off, none⟩))) (hy : lk E y = some v) (hL : L.Perm ((b, .cells arr e (0, 0)) :: L'))
    (hs : v.cells.size = ti.size) (hf : off + ti.size ≤ arr.size) (h1 : ∀ u ∈ v.cells.toList, u.oneCell' = true)
    (k : Run P n w0 S0 ops.toArray Q rest E ((b, .cells (wrAt arr off v.cells.toList) e (0, 0)) :: L')) : Run P n w0 S0 ops.toArray Q (o :: rest) E L :=
  Run.put hg hd hL (fun a w hst hb => by
    refine ⟨w.setRow b (wrAt arr off v.cells.toList), ?_, Fr.setRow _ _ _, setRow_heap w b arr _ e _ hb⟩
    have := run_storeVar_at (P := P) (hT _ _ ht) w hb hs hf h1
    simp [execOp, ho, hst.eval hx, hst.eval hy, Instr.storeAt, Instr.sureAddr, this]) k

theorem New.alloc (hT : TabOk P T) (ho : o.op = .alloc t) (ht : tiGet T t = some ti) : New P n w0 S0 E L o (fun b => .pointer (some ⟨b, 0, none⟩)) (.cells ti.zero.cells t) := by
  intro a w _ _
  refine ⟨w, Fr.refl _ _, rfl, ?_⟩
  simp [execOp, ho, Instr.alloc, (hT _ _ ht).zero, newVar, newRow]
theorem New.box {x : Operand} {v : Value} (ho : o.op = .box t x) (hx : lk E x = some v) : New P n w0 S0 E L o (fun b => .pointer (some ⟨b, 0, none⟩)) (.cells v.cells t) := by
  intro a w hs _
  refine ⟨w, Fr.refl _ _, rfl, ?_⟩
  simp [execOp, ho, hs.eval hx, Instr.box, newVar, newRow]

theorem Val.idxA (hT : TabOk P T) {x y : Operand} {b off len el : Nat} {k : IntKind} {z : Int} {ei : TI} (ho : o.op = .indexAddr t x y) (ht : tiGet T t = some ti) (hd : ti.desc = .array len el) (he : tiGet T el = some ei)
    (hx : lk E x = some (.pointer (some ⟨b, off, none⟩))) (hy : lk E y = some (.int k z)) (h0 : 0 ≤ z) (h1 : z < len) :
    Val P n w0 S0 E L o (.pointer (some ⟨b, off + z.toNat * ei.size, none⟩)) := by
  intro a w hs _
  have h2 := (hT _ _ ht).1
  rw [hd] at h2
  simp [execOp, ho, hs.eval hx, hs.eval hy, Instr.indexAt, asIntOf, run_underlying h2, Instr.sureAddr, h0, h1, (hT _ _ he).size, add_lit]
theorem Val.idxS (hT : TabOk P T) {x y : Operand} {len cap el : Nat} {ad : Addr} {k : IntKind} {z : Int} {ei : TI} (ho : o.op = .indexAddr t x y) (ht : tiGet T t = some ti) (hd : ti.desc = .slice el) (he : tiGet T el = some ei)
    (hx : lk E x = some (.slice (some ad) len cap)) (hy : lk E y = some (.int k z)) (h0 : 0 ≤ z) (h1 : z < len) :
    Val P n w0 S0 E L o (.pointer (some (ad.add (z.toNat * ei.size)))) := by
  intro a w hs _
  have h2 := (hT _ _ ht).1
  rw [hd] at h2
  simp [execOp, ho, hs.eval hx, hs.eval hy, Instr.indexAt, asIntOf, run_underlying h2, h0, h1, (hT _ _ he).size]
theorem Val.idxSb (hT : TabOk P T) {x y : Operand} {b off len cap el : Nat} {k : IntKind} {z : Int} {ei : TI} (ho : o.op = .indexAddr t x y) (ht : tiGet T t = some ti) (hd : ti.desc = .slice el) (he : tiGet T el = some ei)
    (hx : lk E x = some (.slice (some ⟨b, off, none⟩) len cap)) (hy : lk E y = some (.int k z)) (h0 : 0 ≤ z) (h1 : z < len) :
    Val P n w0 S0 E L o (.pointer (some ⟨b, off + z.toNat * ei.size, none⟩)) := by
  have := Val.idxS (P := P) (n := n) (w0 := w0) (S0 := S0) (L := L) hT ho ht hd he hx hy h0 h1
  rwa [add_lit] at this
theorem Val.len {x : Operand} {ad : Option Addr} {len cap : Nat} (hT : TabOk P T) (ho : o.op = .call { callee := .builtin .len, args := #[x], argTypes := #[t] }) (ht : tiGet T t = some ti) {el : Nat} (hd : ti.desc = .slice el)
    (hx : lk E x = some (.slice ad len cap)) : Val P n w0 S0 E L o (.int .i64 len) := by
  intro a w hs _
  have h2 := (hT _ _ ht).1
  rw [hd] at h2
  simp [execOp, ho, hs.eval hx, resolve, invoke, builtin, Builtin.len_, run_underlying h2, goInt]
theorem Val.lenStr {x : Operand} {s : ByteArray} (hT : TabOk P T) (ho : o.op = .call { callee := .builtin .len, args := #[x], argTypes := #[t] }) (ht : tiGet T t = some ti) (hd : ti.desc = .string)
    (hx : lk E x = some (.string s)) : Val P n w0 S0 E L o (.int .i64 s.size) := by
  intro a w hs _
  have h2 := (hT _ _ ht).1
  rw [hd] at h2
  simp [execOp, ho, hs.eval hx, resolve, invoke, builtin, Builtin.len_, run_underlying h2, goInt]
/-- A slice of an array variable: all of it, to h, from l. -/
theorem Val.sliceA (hT : TabOk P T) {x : Operand} {b off len el : Nat} {ei : TI} (ho : o.op = .slice t x none none none) (ht : tiGet T t = some ti) (hd : ti.desc = .array len el) (he : tiGet T el = some ei)
    (hx : lk E x = some (.pointer (some ⟨b, off, none⟩))) : Val P n w0 S0 E L o (.slice (some ⟨b, off, none⟩) len len) := by
  intro a w hs _
  have h2 := (hT _ _ ht).1
  rw [hd] at h2
  by_cases hl : len = 0 <;> simp [execOp, ho, hs.eval hx, Instr.sliceAt, run_underlying h2, Instr.sureAddr, Instr.sliceBounds, (hT _ _ he).size, hl, Addr.add]
theorem Val.sliceAhi (hT : TabOk P T) {x y : Operand} {b off len el : Nat} {ei : TI} {k : IntKind} {z : Int} (ho : o.op = .slice t x none (some y) none) (ht : tiGet T t = some ti) (hd : ti.desc = .array len el) (he : tiGet T el = some ei)
    (hx : lk E x = some (.pointer (some ⟨b, off, none⟩))) (hy : lk E y = some (.int k z)) (h0 : 0 ≤ z) (h1 : z ≤ len) : Val P n w0 S0 E L o (.slice (some ⟨b, off, none⟩) z.toNat len) := by
  intro a w hs _
  have h2 := (hT _ _ ht).1
  rw [hd] at h2
  have hb := run_sliceBound (P := P) w k z len .sliceAlen h0 h1
  simp [execOp, ho, hs.eval hx, hs.eval hy, Instr.sliceAt, run_underlying h2, Instr.sureAddr, Instr.sliceBounds, hb, (hT _ _ he).size, Addr.add]
theorem Val.sliceAlo (hT : TabOk P T) {x y : Operand} {b off len el : Nat} {ei : TI} {k : IntKind} {z : Int} (ho : o.op = .slice t x (some y) none none) (ht : tiGet T t = some ti) (hd : ti.desc = .array len el) (he : tiGet T el = some ei)
    (hx : lk E x = some (.pointer (some ⟨b, off, none⟩))) (hy : lk E y = some (.int k z)) (h0 : 0 ≤ z) (h1 : z < len) : Val P n w0 S0 E L o (.slice (some ⟨b, off + z.toNat * ei.size, none⟩) (len - z.toNat) (len - z.toNat)) := by
  intro a w hs _
  have h2 := (hT _ _ ht).1
  rw [hd] at h2
  have hne : ¬ len = z.toNat := by omega
  simp [execOp, ho, hs.eval hx, hs.eval hy, Instr.sliceAt, run_underlying h2, Instr.sureAddr, Instr.sliceBounds, run_sliceBound, h0, (by omega : z ≤ len), (hT _ _ he).size, hne, add_lit]
end
end Go.Vc
