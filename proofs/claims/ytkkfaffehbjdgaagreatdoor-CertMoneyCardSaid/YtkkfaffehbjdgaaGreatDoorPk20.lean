/- Lemmas. -/
import Derived.Test.YtkkfaffehbjdgaaGreatDoorPk19
set_option linter.unusedSimpArgs false
set_option linter.unusedVariables false
section
/- make([]T, n); rows of numbers. -/
namespace Go.Vc
open Go
section
variable {P : Program} {n : Nat} {w0 : World} {S0 : List Nat} {Q : Exit → Act → World → Prop} {E : Env} {L : Hp} {o : Oper} {d : Nat} {T : List (Nat × TI)} {t : Nat} {ti : TI}
/-- make([]T, m), where an element is one cell. -/
theorem New.make1 (hT : TabOk P T) {x y : Operand} {e m : Nat} {ei : TI} (z : Value) (ho : o.op = .makeSlice t x y) (ht : tiGet T t = some ti) (hd : ti.desc = .slice e) (he : tiGet T e = some ei) (hz1 : ei.size = 1) (hz : ei.zero.cells = #[z])
    (hx : lk E x = some (.int .i64 m)) (hy : lk E y = some (.int .i64 m)) (hm : m ≤ 9223372036854775807) (hb : ei.bytes * m ≤ 281474976710656) : New P n w0 S0 E L o (fun b => .slice (some ⟨b, 0, none⟩) m m) (.cells (List.replicate m z).toArray e) := by
  intro a w hs _
  have h2 := (hT _ _ ht).1
  rw [hd] at h2
  have hw : IntKind.i64.wrap (m : Int) = m := wrap_in (by dsimp only [inK]; omega)
  obtain ⟨-, i, hi, hsz, hby, hzz⟩ := hT _ _ he
  have hb' : ¬ (281474976710656 : Int) < (i.bytes : Int) * (m : Int) := by rw [hby, ← Int.natCast_mul]; omega
  have hr : (Array.range m).map (fun j => ei.zero.cells[j % ei.zero.cells.size]!) = (List.replicate m z).toArray := by
    rw [hz]
    apply Array.ext
    · simp
    · intro j h1 h3
      simp [Nat.mod_one]
  refine ⟨w, Fr.refl _ _, rfl, ?_⟩
  have r0 : Array.range 0 = #[] := by apply Array.ext'; simp
  have hw0 : IntKind.i64.wrap 0 = 0 := by decide
  by_cases h0 : m = 0
  · subst h0
    simp [execOp, ho, hs.eval hx, hs.eval hy, Instr.makeSlice, run_underlying h2, asInt, asIntOf, typeInfo, hi, hw0, sizeOf, hsz, hz1, newRow, r0]
  · simp [execOp, ho, hs.eval hx, hs.eval hy, Instr.makeSlice, run_underlying h2, asInt, asIntOf, typeInfo, hi, hw, sizeOf, hsz, hz1, newRow, h0, zeroValue, hzz, hb', hr]
    intro h9
    omega
end
end Go.Vc
namespace Go.Proofs.YtkkfaffehbjdgaaGreatDoor
open Go Go.Vc Go.Sha
theorem nmk {n : Nat} {w0 : World} {S0 : List Nat} {E : Env} {L : Hp} {o : Oper} {t : Nat} {ti : TI} {x y : Operand} {e m : Nat} {ei : TI} (z : Value) (ho : o.op = .makeSlice t x y := by exact rfl) (ht : tiGet tab t = some ti := by exact rfl) (hd : ti.desc = .slice e := by exact rfl) (he : tiGet tab e = some ei := by exact rfl) (hz1 : ei.size = 1 := by exact rfl) (hz : ei.zero.cells = #[z] := by exact rfl)
    (hx : lk E x = some (.int .i64 m) := by exact rfl) (hy : lk E y = some (.int .i64 m) := by exact rfl) (hm : m ≤ 9223372036854775807 := by omega) (hb : ei.bytes * m ≤ 281474976710656 := by omega) : New Tryz.prog n w0 S0 E L o (fun b => .slice (some ⟨b, 0, none⟩) m m) (.cells (List.replicate m z).toArray e) :=
  New.make1 tabOk z ho ht hd he hz1 hz hx hy hm hb
end Go.Proofs.YtkkfaffehbjdgaaGreatDoor
namespace Go.Sha
end Go.Sha
namespace Go.Proofs.YtkkfaffehbjdgaaGreatDoor
open Go Go.Vc Go.Sha
end Go.Proofs.YtkkfaffehbjdgaaGreatDoor
end
section
/- Calls of function values; panics. -/
namespace Go.Vc
open Go
section
variable {P : Program} {n : Nat} {w0 : World} {S0 : List Nat} {Q : Exit → Act → World → Prop} {E : Env} {L : Hp} {o : Oper} {d : Nat} {T : List (Nat × TI)} {t : Nat} {ti : TI} {ops : Array Oper} {l rest : List Oper}
theorem run_callF {a : Act} {f : FuncId} {x : Operand} {first cap : Array Value} {xs : List Operand} {ts : Array TypeId} {fn : Func} {vs : List Value} (hs : St n E a) (hfv : lk E x = some (.func (.func f) first cap))
    (ho : o.op = .call { callee := .value x, args := xs.toArray, argTypes := ts }) (hf : P.funcs[f]? = some fn) (hnm : (fn.name == "runtime.NumGoroutine") = false) (hb : fn.body.isNone = false)
    (hx : lkAll E xs = some vs) (w : World) : (execOp a.eval o).run P w = .ok (.enter f (first ++ vs.toArray ++ cap)) w := by
  have hv := hs.evalAll hx
  have hn' : ¬ fn.name = "runtime.NumGoroutine" := by simpa using hnm
  have hb' : ¬ fn.body = none := by intro h; rw [h] at hb; cases hb
  simp [execOp, ho, resolve, hs.eval hfv, Deferred.ofValue, invoke, callFunc, hf, hn', hb', ← hv]
/-- What a call comes to that may panic. -/
def Ends (P : Program) (f : FuncId) (args : Array Value) (w0 : World) (S0 : List Nat) (w : World) {Y Z : Type} (V : Y → Value) (L' : Y → Hp) (C : Z → List PanicEntry) (Lp : Z → Hp) : Prop :=
  Calls P f args w fun e w' => (∃ y, e = .returned (V y) ∧ Mem w0 S0 (L' y) w') ∨ (∃ z, e = .panicked (C z) ∧ Mem w0 S0 (Lp z) w')
/-- A call of a function value, which may panic. -/
theorem OpTo.callF {f : FuncId} {x : Operand} {first cap : Array Value} {xs : List Operand} {ts : Array TypeId} {fn : Func} {vs : List Value} (hf : P.funcs[f]? = some fn) {Y Z : Type} {V : Y → Value} {L' : Y → Hp} {C : Z → List PanicEntry} {Lp : Z → Hp}
    (hc : ∀ w, Mem w0 S0 L w → Ends P f (first ++ vs.toArray ++ cap) w0 S0 w V L' C Lp) (hp : ∀ z, RQ n w0 S0 (.panic (C z)) Q E (Lp z))
    (hd : o.dst = some d := by exact rfl) (hn : Nat.blt d n = true := by exact rfl)
    (ho : o.op = .call { callee := .value x, args := xs.toArray, argTypes := ts } := by exact rfl) (hfv : lk E x = some (.func (.func f) first cap) := by exact rfl) (hnm : (fn.name == "runtime.NumGoroutine") = false := by exact rfl) (hb : fn.body.isNone = false := by exact rfl)
    (hx : lkAll E xs = some vs := by exact rfl) : OpTo P n w0 S0 Q E L o (fun y => (d, V y) :: E) L' := by
  intro a w hs hm K hK
  simp only [Oper.wp, run_callF hs hfv ho hf hnm hb hx, Oper.upon_enter]
  refine (hc w hm).mono ?_
  rintro e w' (⟨y, rfl, hm'⟩ | ⟨z, rfl, hm'⟩)
  · simp only [hd]
    exact hK y _ _ (hs.put hn _) hm'
  · exact hp z a w' hs hm'
end
end Go.Vc
end
section
/- Steps that find by themselves what is known of calls and of cells. -/
namespace Go.Vc
open Go
/-- What a call gives, in every world that has but grown since w0. -/
def Knows (P : Program) (w0 : World) (f : FuncId) (vs : List Value) (v : Value) : Prop := ∃ fn, P.funcs[f]? = some fn ∧ (fn.name == "runtime.NumGoroutine") = false ∧ fn.body.isNone = false ∧ ∀ w, Fr [] w0 w → Gives P f vs v w
theorem Knows.mk {P : Program} {w0 : World} {f : FuncId} {vs : List Value} {v : Value} {fn : Func} (hf : P.funcs[f]? = some fn) (h : ∀ w, Fr [] w0 w → Gives P f vs v w) (hnm : (fn.name == "runtime.NumGoroutine") = false := by exact rfl) (hb : fn.body.isNone = false := by exact rfl) : Knows P w0 f vs v := ⟨fn, hf, hnm, hb, h⟩
theorem Knows.cv {P : Program} {w0 : World} {f : FuncId} {vs : List Value} {v v' : Value} (h : Knows P w0 f vs v) (e : v = v') : Knows P w0 f vs v' := e ▸ h
/-- Cells that stand there. -/
def At (w : World) (ad : Addr) (cs : List Value) : Prop := ∀ j u, cs[j]? = some u → w.cell? (ad.add j) = some u
/-- Of a row a part that is an array or a struct is read. -/
theorem rd_agg {ti : TI} {arr : Array Value} {off : Nat} {cs : List Value} (h : ∀ (j : Nat) (u : Value), cs[j]? = some u → arr[off + j]? = some u) (hl : cs.length = ti.size) (hz : 0 < ti.size) (ha : TypeDesc.agg ti.desc = true) : rdAt ti arr off = some (.agg cs.toArray) := by
  have hlast := h (ti.size - 1) (cs[ti.size - 1]'(by omega)) (List.getElem?_eq_getElem _)
  have hlt := (Array.getElem?_eq_some_iff.1 hlast).1
  unfold rdAt
  rw [ha, cond_true, Nat.ble_eq_true_of_le (by omega), cond_true]
  congr 2
  apply Array.ext_getElem?
  intro j
  by_cases hj : j < ti.size
  · have h1 := h j (cs[j]'(by omega)) (List.getElem?_eq_getElem _)
    rw [Array.getElem?_extract_of_lt (by omega), List.getElem?_toArray, List.getElem?_eq_getElem (by omega)]
    congr 1
    exact (Array.getElem?_eq_some_iff.1 h1).2
  · rw [Array.getElem?_eq_none (by rw [Array.size_extract]; omega), List.getElem?_toArray, List.getElem?_eq_none (by omega)]
end Go.Vc
namespace Go.Proofs.YtkkfaffehbjdgaaGreatDoor
open Go Go.Vc Go.Sha
section
variable {n : Nat} {w0 : World} {S0 : List Nat} {Q : Exit → Act → World → Prop} {E : Env} {L : Hp} {o : Oper} {d : Nat} {t : Nat} {ti : TI}
theorem cvK {f : FuncId} {xs : List Operand} {ts : Array TypeId} {vs : List Value} {v : Value}
    (hd : o.dst = some d := by exact rfl) (hn : Nat.blt d n = true := by exact rfl)
    (ho : o.op = .call { callee := .value (.func f), args := xs.toArray, argTypes := ts } := by exact rfl)
    (hx : lkAll E xs = some vs := by exact rfl) (h : Knows Tryz.prog w0 f vs v := by assumption) : OpTo Tryz.prog n w0 [] Q E L o (Y := Unit) (fun _ => (d, v) :: E) (fun _ => L) := by
  obtain ⟨fn, hf, hnm, hb, hc⟩ := h
  exact OpTo.callV hf hd hn ho hnm hb hx fun w hm => hc w hm.fr
theorem vlH {x : Operand} {b off : Nat} {arr : Array Value} {e : TypeId} {fz : Nat × Nat} {v : Value} (ho : o.op = .load t x := by exact rfl)
    (ht : tiGet tab t = some ti := by exact rfl) (hx : lk E x = some (.pointer (some ⟨b, off, none⟩)) := by exact rfl) (hm : (b, .cells arr e fz) ∈ L := by (repeat (first | exact List.mem_cons_self | apply List.mem_cons_of_mem | apply List.mem_append_right))) (hv : rdAt ti arr off = some v := by assumption) : Val Tryz.prog n w0 S0 E L o v := Val.load tabOk ho ht hx hm hv
theorem vloH {x : Operand} {ad : Addr} {v : Value} (ho : o.op = .load t x := by exact rfl) (ht : tiGet tab t = some ti := by exact rfl) (ha : TypeDesc.agg ti.desc = false := by exact rfl) (hx : lk E x = some (.pointer (some ad)) := by exact rfl) (hc : w0.cell? ad = some v := by assumption) (hS : ad.block ∉ S0 := by first | exact List.not_mem_nil | assumption) : Val Tryz.prog n w0 S0 E L o v := Val.loadOld1 tabOk ho ht hx ha hS hc
theorem vloW {x : Operand} {ad : Addr} {cs : List Value} (ho : o.op = .load t x := by exact rfl) (ht : tiGet tab t = some ti := by exact rfl) (ha : TypeDesc.agg ti.desc = true := by exact rfl) (hx : lk E x = some (.pointer (some ad)) := by exact rfl) (hc : At w0 ad cs := by assumption) (hl : cs.length = ti.size := by first | assumption | exact rfl) (hS : ad.block ∉ S0 := by first | exact List.not_mem_nil | assumption) : Val Tryz.prog n w0 S0 E L o (.agg cs.toArray) := Val.loadOld tabOk ho ht hx ha hS hl hc
theorem vlaH {x : Operand} {b : Nat} {arr : Array Value} {e : TypeId} {fz : Nat × Nat} (ho : o.op = .load t x := by exact rfl)
    (ht : tiGet tab t = some ti := by exact rfl) (ha : TypeDesc.agg ti.desc = true := by exact rfl) (hx : lk E x = some (.pointer (some ⟨b, 0, none⟩)) := by exact rfl) (hm : (b, .cells arr e fz) ∈ L := by (repeat (first | exact List.mem_cons_self | apply List.mem_cons_of_mem | apply List.mem_append_right))) (hv : arr.size = ti.size := by first | assumption | exact rfl) : Val Tryz.prog n w0 S0 E L o (.agg arr) := Val.loadAll tabOk ho ht hx ha hm hv
end
attribute [local irreducible] Run RC RQ DR DOp
/-- What goes by itself, with what is known. -/
theorem y_ {A B : Prop} (k : A) (f : Hd A → B := by (intro h; (repeat (first
  | (refine (?_ : Run _ _ _ _ _ _ _ _ _); first | refine Run.nil ?_ | refine Run.sk ?_ | refine Run.a Val.ra ?_ | refine Run.a Val.nes ?_ | refine Run.a Val.eqs ?_ | refine Run.a Val.eqf ?_ | refine Run.a Val.nef ?_ | refine Run.a Val.rmn ?_ | refine Run.a Val.qun ?_ | refine Run.a (Val.of rfl) ?_ | refine Run.a vf0 ?_ | refine Run.a vlH ?_ | refine Run.a vloH ?_ | refine Run.a vloW ?_ | refine Run.a vlaH ?_ | refine Run.op1 cvK (fun _ => ?_) | refine Run.a (vl (.int _ _)) ?_ | refine Run.a vla ?_ | refine Run.a (vl (.bool _)) ?_ | refine Run.a (vl (.slice _ _ _)) ?_ | refine Run.a (vl (.pointer _)) ?_ | refine Run.a vf ?_ | refine Run.a vpn ?_ | refine Run.a vlen ?_ | refine Run.a vci ?_ | refine Run.a vcv ?_ | refine Run.sku ?_ | ((fail_if_success (refine Run.lit ?_)); first | refine Run.gT ?_ | refine Run.gF ?_))
  | (refine (?_ : RC _ _ _ _ _ _ _ _); first | refine RC.seq ?_ | refine RC.region ?_ | refine RC.condT rfl rfl ?_ | refine RC.condF rfl rfl ?_ | refine RC.ret ?_ | refine RC.skip ?_ | refine RC.block ?_ | refine RC.exit ?_ | refine RC.cT ?_ | refine RC.cF ?_)
  | (refine (?_ : RQ _ _ _ _ _ _ _); first | refine RQ.next ?_ | refine RQ.thenRet ?_ | refine RQ.blockRet ?_ | refine RQ.blockNormal ?_ | refine RQ.thenExit ?_ | refine RQ.blockHere ?_ | refine RQ.blockPast rfl ?_))); exact h.h)) : B := f ⟨k⟩
/-- An early row of a region that draws, with what is known. -/
theorem dy {n : Nat} {w0 : World} {S0 : List Nat} {Q : Exit → Act → World → Prop} {E : Env} {L Lr : Hp} {o : Oper} {d fuel : Nat} {ops : Array Oper} {listed : Array Bool} {v : Value} (i : Nat) (k : DR Tryz.prog n w0 S0 ops Q Lr fuel (listed.setIfInBounds i true) ((d, v) :: E) L)
    (hi : ops[i]? = some o := by exact rfl) (hv : Val Tryz.prog n w0 S0 E Lr o v := by first | exact Val.ra | exact Val.nes | exact Val.eqs | exact Val.eqf | exact Val.nef | exact Val.rmn | exact Val.qun | exact Val.of rfl | exact vf0 | exact vlH | exact vloH | exact vloW | exact vlaH | exact vf | exact vpn | exact vl (.int _ _) | exact vl (.bool _) | exact vl (.slice _ _ _) | exact vl (.pointer _) | exact vla | exact vlen | exact vci | exact vcv)
    (hl : Lr.Sublist L := by first | exact List.Sublist.refl _ | exact List.nil_sublist _ | (repeat (first | exact List.nil_sublist _ | exact List.Sublist.refl _ | apply List.Sublist.cons_cons | apply List.Sublist.cons | apply Go.Vc.subApp)))
    (hw : Wanted n ops E o true := by first | exact Wanted.plain rfl | exact Wanted.guard rfl rfl rfl rfl) (hq : QP Q := by exact inferInstance) (hsel : Region.noSelect ops = true := by kernel_rfl) (hf : Region.free .any ops listed i = true := by kernel_rfl) (hr : (Region.ready .any ops listed).contains i = true := by kernel_rfl) (hcl : closedB ops listed = true := by kernel_rfl)
    (hd : o.dst = some d := by exact rfl) (hn : Nat.blt d n = true := by exact rfl) (hpu : npB ops i = false ∨ ∃ v', ev E o.op = some v' := by first | exact .inr ⟨_, rfl⟩ | exact .inl (by kernel_rfl)) : DR Tryz.prog n w0 S0 ops Q Lr (fuel + 1) listed E L := DR.take i hi hl hq hsel hf hr hcl hd hn hw hpu hv k
end Go.Proofs.YtkkfaffehbjdgaaGreatDoor

/- Steps that find indexes and fields of old cells; calls of function values that give a value. -/
namespace Go.Vc
open Go
section
variable {P : Program} {n : Nat} {w0 : World} {S0 : List Nat} {Q : Exit → Act → World → Prop} {E : Env} {L : Hp} {o : Oper} {d : Nat}
/-- A call of a function value that gives a value. -/
theorem OpTo.callFV {f : FuncId} {x : Operand} {first cap : Array Value} {xs : List Operand} {ts : Array TypeId} {fn : Func} {vs : List Value} (all : List Value) {v : Value} (hf : P.funcs[f]? = some fn) (hc : ∀ w, Mem w0 S0 L w → Gives P f all v w)
    (hd : o.dst = some d := by exact rfl) (hn : Nat.blt d n = true := by exact rfl)
    (ho : o.op = .call { callee := .value x, args := xs.toArray, argTypes := ts } := by exact rfl) (hfv : lk E x = some (.func (.func f) first cap) := by exact rfl) (hnm : (fn.name == "runtime.NumGoroutine") = false := by exact rfl) (hb : fn.body.isNone = false := by exact rfl)
    (hx : lkAll E xs = some vs := by exact rfl) (hall : first ++ vs.toArray ++ cap = all.toArray := by exact rfl) : OpTo P n w0 S0 Q E L o (Y := Unit) (fun _ => (d, v) :: E) (fun _ => L) := by
  refine OpTo.callF (Y := Unit) (Z := Empty) (V := fun _ => v) (L' := fun _ => L) (C := fun z => z.elim) (Lp := fun z => z.elim) hf (fun w hm => ?_) (fun z => z.elim) hd hn ho hfv hnm hb hx
  unfold Ends
  rw [hall]
  refine (hc w hm).mono ?_
  rintro e w' ⟨rfl, hfr⟩
  exact .inl ⟨(), rfl, hm.ext hfr⟩
end
section
variable {P : Program} {n : Nat} {w0 : World} {S0 : List Nat} {E : Env} {L : Hp} {o : Oper} {t : TypeId} {ti ei : TI} {T : List (Nat × TI)}
theorem Val.sHi (hT : TabOk P T) {x y : Operand} {a : Option Addr} {len cap el : Nat} (k : Nat) (ho : o.op = .slice t x none (some y) none) (ht : tiGet T t = some ti) (hd : ti.desc = .slice el) (he : tiGet T el = some ei)
    (hx : lk E x = some (.slice a len cap)) (hy : lk E y = some (.int .i64 k)) (h1 : k ≤ len) (h2 : len ≤ cap) : Val P n w0 S0 E L o (.slice a k cap) := by
  intro ac w hs _
  have hu := (hT _ _ ht).1
  rw [hd] at hu
  have b3 := run_sliceBound (P := P) w .i64 k cap .sliceAcap (by omega) (by omega)
  cases a with
  | none => simp [execOp, ho, hs.eval hx, hs.eval hy, Instr.sliceAt, Instr.slice, run_underlying hu, Instr.sliceBounds, (hT _ _ he).size, b3]
  | some ad => simp [execOp, ho, hs.eval hx, hs.eval hy, Instr.sliceAt, Instr.slice, run_underlying hu, Instr.sliceBounds, (hT _ _ he).size, b3, Addr.add]
theorem Val.mkFn {f : FuncId} {fs cs : List Operand} {us vs : List Value} (ho : o.op = .makeFunc (.func f) fs.toArray cs.toArray := by exact rfl) (hu : lkAll E fs = some us := by exact rfl) (hv : lkAll E cs = some vs := by exact rfl) : Val P n w0 S0 E L o (.func (.func f) us.toArray vs.toArray) := by
  intro ac w hs _
  have e1 := hs.evalAll hu
  have e2 := hs.evalAll hv
  simp [execOp, ho, Instr.makeFunc, ← e1, ← e2]
end
theorem SrcW.tk {w : World} {sz m c k : Nat} {a : Option Addr} {cs : List Value} (h : SrcW w sz (.slice a m c) m cs) (hk : k ≤ m) : SrcW w sz (.slice a k c) k (cs.take (k * sz)) := by
  cases h with
  | nil =>
    have : k = 0 := by omega
    subst this
    rw [Nat.zero_mul, List.take_zero]
    exact .nil
  | «at» ad _ _ _ hl hc hr =>
    refine .at ad _ _ _ ?_ (by omega) fun j u hj => ?_
    · rw [List.length_take, hl]
      have := Nat.mul_le_mul_right sz hk
      omega
    · rw [List.getElem?_take] at hj
      split at hj
      · exact hr j u hj
      · cases hj
theorem At.mk {w : World} {ad : Addr} {cs : List Value} (h : ∀ j u, cs[j]? = some u → w.cell? (ad.add j) = some u) : At w ad cs := h
end Go.Vc
namespace Go.Proofs.YtkkfaffehbjdgaaGreatDoor
open Go Go.Vc Go.Sha
section
variable {n : Nat} {w0 : World} {S0 : List Nat} {Q : Exit → Act → World → Prop} {E : Env} {L : Hp} {o : Oper} {d : Nat} {t : Nat} {ti : TI}
theorem vixA {x y : Operand} {ad : Addr} {len cap el j : Nat} {k : IntKind} {z : Int} {ei : TI} (ho : o.op = .indexAddr t x y := by exact rfl) (ht : tiGet tab t = some ti := by exact rfl) (hd : ti.desc = .slice el := by exact rfl) (he : tiGet tab el = some ei := by exact rfl) (hx : lk E x = some (.slice (some ad) len cap) := by exact rfl) (hy : lk E y = some (.int k z) := by exact rfl) (hz : z = (j : Int) := by exact rfl) (hj : j < len := by first | assumption | omega) :
    Val Tryz.prog n w0 S0 E L o (.pointer (some (ad.add (j * ei.size)))) := Val.ixS tabOk j ho ht hd he hx hy hz hj rfl
theorem vfAA {x : Operand} {ad : Addr} {i el off' bo : Nat} {em : Bool} {nm tg pp : String} {fs : Array Field} {ei : TI} (ho : o.op = .fieldAddr t x i := by exact rfl) (hx : lk E x = some (.pointer (some (ad.add off'))) := by exact rfl) {off : Nat} (ht : tiGet tab t = some ti := by exact rfl) (hd : ti.desc = .struct fs := by exact rfl) (hf : fs[i]? = some ⟨nm, el, off, em, tg, pp, bo⟩ := by exact rfl) (he : tiGet tab el = some ei := by exact rfl)
    (hz : Nat.beq ei.size 0 = false := by exact rfl) : Val Tryz.prog n w0 S0 E L o (.pointer (some ((ad.add off').add off))) := Val.fieldAddrA tabOk ho ht hd hf rfl he hz hx
/-- A struct, or an array, that is built of nothing. -/
theorem vbz {cells : Array Value} {fs : List Field} {ps : List (Nat × Nat)} (ho : o.op = .build t #[] := by exact rfl) (ht : tiGet tab t = some ti := by exact rfl) (hd : ti.desc = .struct fs.toArray := by exact rfl) (hp : placesOf tab fs = some ps := by exact rfl) (hz : ti.zero.cells = cells := by exact rfl) : Val Tryz.prog n w0 S0 E L o (.agg cells) := by
  subst hz
  exact Val.buildS tabOk (parts := []) (vs := []) ho ht hd hp rfl rfl
theorem vbaz {cells : Array Value} {len e : TypeId} {ei : TI} (ho : o.op = .build t #[] := by exact rfl) (ht : tiGet tab t = some ti := by exact rfl) (hd : ti.desc = .array len e := by exact rfl) (he : tiGet tab e = some ei := by exact rfl) (hz : ti.zero.cells = cells := by exact rfl) : Val Tryz.prog n w0 S0 E L o (.agg cells) := by
  subst hz
  exact Val.buildA tabOk (parts := []) (vs := []) ho ht hd he rfl rfl
end
attribute [local irreducible] Run RC RQ DR DOp
/-- What goes by itself, with what is known. -/
theorem x_ {A B : Prop} (k : A) (f : Hd A → B := by (intro h; (repeat (first
  | (refine (?_ : Run _ _ _ _ _ _ _ _ _); first | refine Run.nil ?_ | refine Run.sk ?_ | refine Run.a Val.ra ?_ | refine Run.a Val.nes ?_ | refine Run.a Val.eqs ?_ | refine Run.a Val.eqf ?_ | refine Run.a Val.nef ?_ | refine Run.a Val.rmn ?_ | refine Run.a Val.qun ?_ | refine Run.a (Val.of rfl) ?_ | refine Run.a vf0 ?_ | refine Run.a vlH ?_ | refine Run.a vloH ?_ | refine Run.a vloW ?_ | refine Run.a vlaH ?_ | refine Run.op1 cvK (fun _ => ?_) | refine Run.a vixA ?_ | refine Run.a vfAA ?_ | refine Run.a (vl (.int _ _)) ?_ | refine Run.a vla ?_ | refine Run.a (vl (.bool _)) ?_ | refine Run.a (vl (.slice _ _ _)) ?_ | refine Run.a (vl (.pointer _)) ?_ | refine Run.a vf ?_ | refine Run.a vpn ?_ | refine Run.a vlen ?_ | refine Run.a vci ?_ | refine Run.a vcv ?_ | refine Run.a vbz ?_ | refine Run.a vbaz ?_ | refine Run.sku ?_ | ((fail_if_success (refine Run.lit ?_)); first | refine Run.gT ?_ | refine Run.gF ?_))
  | (refine (?_ : RC _ _ _ _ _ _ _ _); first | refine RC.seq ?_ | refine RC.region ?_ | refine RC.condT rfl rfl ?_ | refine RC.condF rfl rfl ?_ | refine RC.ret ?_ | refine RC.skip ?_ | refine RC.block ?_ | refine RC.exit ?_ | refine RC.cT ?_ | refine RC.cF ?_)
  | (refine (?_ : RQ _ _ _ _ _ _ _); first | refine RQ.next ?_ | refine RQ.thenRet ?_ | refine RQ.blockRet ?_ | refine RQ.blockNormal ?_ | refine RQ.thenExit ?_ | refine RQ.blockHere ?_ | refine RQ.blockPast rfl ?_))); exact h.h)) : B := f ⟨k⟩
end Go.Proofs.YtkkfaffehbjdgaaGreatDoor
end
section
/- wire: digits. -/
namespace Go.Vc
open Go
section
variable {P : Program} {n : Nat} {w0 : World} {S0 : List Nat} {Q : Exit → Act → World → Prop} {E : Env} {L : Hp}
theorem RQ.upP {D : Type} {N : Nat} {R : Nat → D → Prop} {Ei : Nat → D → Env} {Li : Nat → D → Hp} {i : Nat} (j : Nat) (d : D) (hij : i < j) (hj : j ≤ N) (hR : R j d) (hE : Env.le (Ei j d) E) {L1 : Hp} (hp : L.Perm L1) (hL : (Li j d).Sublist L1) :
    RQ n w0 S0 .normal (Exit.then (Up n w0 S0 N R Ei Li i) Q) E L :=
  fun _ _ hs hm => ⟨j, d, hij, hj, hR, hs.weak hE, (hm.perm hp).sublist hL⟩
end
end Go.Vc
namespace Go.Proofs.YtkkfaffehbjdgaaGreatDoor
attribute [local irreducible] Go.Vc.Run Go.Vc.RC Go.Vc.RQ Go.Vc.DR Go.Vc.DOp
open Go Go.Vc Go.Sha
set_option maxRecDepth 10000 in set_option maxHeartbeats 4000000 in
theorem digits_calls (n k : Nat) (hk : k ≤ 8) (w : World) :
    Makes Tryz.prog 123 [.int .i64 n, .int .i64 k] w 5 1 k (u8s (le n k)) := by
  refine enter Tryz.func123 rfl (Mem.nil w []) rfl ?_
  refine z_ ?_
  refine Run.nw (nmk (m := k) (.int .u8 0) (hb := by show 1 * k ≤ _; omega)) ?_
  intro b
  rw [show List.replicate k (Value.int .u8 0) = u8s (le n 0 ++ List.replicate (k - 0) 0) from by simp [le, u8s]]
  refine z_ ?_
  refine RC.up k (D := Unit) (fun _ _ => True) (fun i _ => [(11, .int .i64 i), (10, .int .i64 k), (5, .slice (some ⟨b, 0, none⟩) k k), (0, .int .i64 n)])
    (fun i _ => [(b, Obj.cells (u8s (le n i ++ List.replicate (k - i) 0)).toArray 5 (0, 0))]) 0 () (Nat.zero_le _) trivial ⟨rfl, rfl, rfl, rfl, trivial⟩ (List.Sublist.refl _) ?_
  intro i _ hi _
  refine z_ ?_
  (repeat refine RC.seq ?_); refine RC.wh rfl (fun h => RQ.next ?_) (fun h => ?_)
  · have hi' : i < k := by have := of_decide_eq_true h; omega
    clear h
    obtain ⟨j, hj⟩ : ∃ j, k - i = 1 + j := ⟨k - i - 1, by omega⟩
    have hw := wr_next (le n i) [n / 2 ^ (8 * i) % 256] j
    rw [show [n / 2 ^ (8 * i) % 256].length + j = k - i from by rw [hj]; rfl, le_len] at hw
    have hv : IntKind.u8.wrap ((n : Int).fdiv (2 ^ min (8 * (i : Int)).toNat IntKind.i64.bits)) = ((n / 2 ^ (8 * i) % 256 : Nat) : Int) := by
      rw [show min (8 * (i : Int)).toNat IntKind.i64.bits = 8 * i from by show min _ 64 = _; omega, wrap_u8, Int.fdiv_eq_ediv_of_nonneg _ (Int.le_of_lt (Int.pow_pos (by decide)))]
      rfl
    refine z_ ?_
    rw [hv]
    refine Run.a (vix i hi' ⟨b, 0 + i, none⟩) ?_
    refine Run.op1 (os1 (arr := (u8s (le n i ++ List.replicate (k - i) 0)).toArray) (u8s (le n i ++ [n / 2 ^ (8 * i) % 256] ++ List.replicate j 0)).toArray (he := by rw [Nat.zero_add]; exact hw) (hf := by rw [List.size_toArray, u8s_len, List.length_append, le_len, List.length_replicate]; show 0 + i + 1 ≤ _; omega)) (fun _ => ?_)
    refine z_ ?_
    exact RQ.upP (i + 1) () (Nat.lt_succ_self _) hi' trivial ⟨rfl, rfl, rfl, rfl, trivial⟩ (L1 := [(b, Obj.cells (u8s (le n (i + 1) ++ List.replicate (k - (i + 1)) 0)).toArray 5 (0, 0))] ++ []) (by rw [show k - (i + 1) = j from by omega]; exact List.Perm.refl _) (List.sublist_append_left _ _)
  · have hi' : i = k := by have := of_decide_eq_false h; omega
    subst hi'
    (repeat refine RQ.thenExit ?_); refine RQ.blockHere ?_
    refine z_ ?_
    rw [Nat.sub_self, List.replicate_zero, List.append_nil]
    exact RQ.ret1 rfl (Res.tmp rfl) fun w' hm => Makes.of (L' := []) (Own.row b i i (u8s (le n i)) [] (by rw [u8s_len, le_len, Nat.mul_one]) (by rw [List.append_nil, u8s_len, le_len, Nat.mul_one]) (Nat.le_refl _) (by unfold maxLen; omega)) (by rw [List.append_nil, List.append_nil]; exact hm)
end Go.Proofs.YtkkfaffehbjdgaaGreatDoor

/- wire: the writer. -/
namespace Go.Vc
open Go Go.Sha
theorem RQ.end0 {P : Program} {n : Nat} {w0 : World} {S0 : List Nat} {E : Env} {L : Hp} {fn : Func} {R : Ending → World → Prop} (hr : fn.results = #[]) (h : ∀ w, Mem w0 S0 L w → R (.returned (.tuple #[])) w) : RQ n w0 S0 .normal (bodyPost P fn R) E L := by
  intro a w hs hm
  refine ⟨hs.defers, .tuple #[], ?_, h w hm⟩
  rw [results_eq, hr]; simp
/-- A writer: its bytes, its first error. -/
structure Wr (tW tB : TypeId) (wb : Nat) where
  v : Value
  bl : Hp
  bs : List Nat
  e : Int
  own : Own tB 1 v bs.length (u8s bs) bl
  nd : (wb :: bl.map (·.1)).Nodup
  hl : bs.length ≤ 131072
def Wr.L {tW tB : TypeId} {wb : Nat} (x : Wr tW tB wb) : Hp := (wb, .cells #[x.v, .int .i64 x.e] tW (0, 0)) :: x.bl
/-- What is written, and how it stands. -/
def putW (bs : List Nat) (e : Int) (a : List Nat) : List Nat × Int := if e = 0 then (if (a.length : Int) > 131072 - bs.length then (bs, 3) else (bs ++ a, 0)) else (bs, e)
end Go.Vc
namespace Go.Proofs.YtkkfaffehbjdgaaGreatDoor
attribute [local irreducible] Go.Vc.Run Go.Vc.RC Go.Vc.RQ Go.Vc.DR Go.Vc.DOp
open Go Go.Vc Go.Sha
abbrev WrG (tW : TypeId) (wb : Nat) := Wr tW 5 wb
abbrev PutG (tW : TypeId) (wb : Nat) (r : List Nat × Int) := {y : WrG tW wb // (y.bs, y.e) = r}
theorem put_of {tW : TypeId} {wb : Nat} {ap Lst L1 Lr : Hp} {w w' : World} {r : List Nat × Int} (y : WrG tW wb) (hr : (y.bs, y.e) = r) (hm : Mem w (Lst.map (·.1)) L1 w') (hp : L1.Perm ((y.L ++ ap) ++ Lr)) :
    ∃ y' : PutG tW wb r, Ending.returned (.tuple #[]) = .returned (.tuple #[]) ∧ Fr (Lst.map (·.1)) w w' ∧ Has (y'.1.L ++ ap) w' ∧ (∀ p ∈ y'.1.L ++ ap, w.heap.size ≤ p.1 ∨ p.1 ∈ Lst.map (·.1)) ∧ ((y'.1.L ++ ap).map (·.1)).Nodup :=
  Turns.of (Y := PutG tW wb r) (V := fun _ => .tuple #[]) (L' := fun y => y.1.L ++ ap) ⟨y, hr⟩ hm hp
set_option maxRecDepth 10000 in set_option maxHeartbeats 4000000 in
theorem put_calls {tW : TypeId} {wb : Nat} (x : WrG tW wb) (a : List Nat) {u : Value} {ap : Hp} (hal : a.length ≤ 1000000) (w : World) (hsrc : ∀ L : Hp, (∀ p ∈ ap, p ∈ L) → Src w ((x.L ++ ap).map (·.1)) L 1 u a.length (u8s a)) (hush : ∃ ua uc, u = .slice ua a.length uc)
    (hw : Has (x.L ++ ap) w) (hnd : ((x.L ++ ap).map (·.1)).Nodup) :
    Turns Tryz.prog 122 [.pointer (some ⟨wb, 0, none⟩), u] w (x.L ++ ap) (Y := PutG tW wb (putW x.bs x.e a)) (fun _ => .tuple #[]) (fun y => y.1.L ++ ap) := by
  refine enter Tryz.func122 rfl (Mem.init (S0 := (x.L ++ ap).map (·.1)) hw (fun p hp => List.mem_map_of_mem hp) hnd) rfl ?_
  obtain ⟨va, vc, hv, hvc⟩ := x.own.shape
  obtain ⟨ua, uc, rfl⟩ := hush
  have hown := x.own
  rw [hv] at hown
  have hl := x.hl
  have hcells : x.L ++ ap = (wb, Obj.cells #[.slice va x.bs.length vc, .int .i64 x.e] tW (0, 0)) :: (x.bl ++ ap) := by unfold Wr.L; rw [hv]; rfl
  by_cases he : x.e = 0
  · rw [hcells, he] at hsrc ⊢
    refine z_ ?_
    by_cases hgt : (a.length : Int) > 131072 - x.bs.length
    · rw [show putW x.bs 0 a = (x.bs, 3) from by unfold putW; rw [if_pos rfl, if_pos hgt]]
      refine z_ ?_
      refine Run.op1 (os1 #[Value.slice va x.bs.length vc, .int .i64 3]) (fun _ => ?_)
      refine z_ ?_
      exact RQ.end0 rfl fun w' hm => put_of ⟨.slice va x.bs.length vc, x.bl, x.bs, 3, hown, x.nd, hl⟩ rfl hm (Lr := []) (by unfold Wr.L; exact (perm_of fun f => by (simp only [List.map_append, List.map_cons, List.map_nil, List.sum_append, List.sum_cons, List.sum_nil] <;> omega)))
    · rw [show putW x.bs 0 a = (x.bs ++ a, 0) from by unfold putW; rw [if_pos rfl, if_neg hgt]]
      refine z_ ?_
      refine Run.op1 (OpTo.append (L1 := (wb, Obj.cells #[Value.slice va x.bs.length vc, .int .i64 0] tW (0, 0)) :: ap) tabOk hown (hsrc _ (fun p hp => List.mem_cons_of_mem _ (List.mem_append_right _ hp))) rfl rfl rfl rfl rfl rfl rfl rfl rfl (perm_of fun f => by (simp only [List.map_append, List.map_cons, List.map_nil, List.sum_append, List.sum_cons, List.sum_nil] <;> omega)) (u8s_one _) (by unfold maxLen; omega) (by simp only [ti5]; omega)) ?_
      rintro ⟨⟨v9, bl9⟩, hown9⟩
      dsimp only at hown9 ⊢
      rw [← u8s_app] at hown9
      obtain ⟨a9, c9, rfl, hc9⟩ := hown9.shape
      refine z_ ?_
      refine Run.op1 (os1 #[Value.slice a9 (x.bs.length + a.length) c9, .int .i64 0]) (fun _ => ?_)
      refine z_ ?_
      refine RQ.end0 rfl fun w' hm => ?_
      have hnd' := hm.nd
      refine put_of ⟨.slice a9 (x.bs.length + a.length) c9, bl9, x.bs ++ a, 0, by rw [List.length_append]; exact hown9, ?_, by rw [List.length_append]; omega⟩ rfl hm (Lr := []) (by unfold Wr.L; exact (perm_of fun f => by (simp only [List.map_append, List.map_cons, List.map_nil, List.sum_append, List.sum_cons, List.sum_nil] <;> omega)))
      rw [List.map_cons, List.map_append, ← List.cons_append] at hnd'
      exact (List.nodup_append.1 hnd').1
  · rw [show putW x.bs x.e a = (x.bs, x.e) from if_neg he]
    rw [hcells]
    refine z_ ?_
    exact RQ.end0 rfl fun w' hm => put_of ⟨.slice va x.bs.length vc, x.bl, x.bs, x.e, hown, x.nd, hl⟩ rfl hm (Lr := []) (by unfold Wr.L; exact (perm_of fun f => by (simp only [List.map_append, List.map_cons, List.map_nil, List.sum_append, List.sum_cons, List.sum_nil] <;> omega)))
end Go.Proofs.YtkkfaffehbjdgaaGreatDoor

/- wire: the writer's parts. -/
namespace Go.Vc
open Go
theorem hasFs {w0 w' : World} {S0 : List Nat} {L A B : Hp} (hp : L.Perm (A ++ B)) (hm : Mem w0 S0 L w') : Has A w' ∧ (A.map (·.1)).Nodup :=
  ⟨fun q hq => (hm.perm hp).has q (List.mem_append_left _ hq), by have := (hm.perm hp).nd; rw [List.map_append] at this; exact (List.nodup_append.1 this).1⟩
end Go.Vc
namespace Go.Proofs.YtkkfaffehbjdgaaGreatDoor
attribute [local irreducible] Go.Vc.Run Go.Vc.RC Go.Vc.RQ Go.Vc.DR Go.Vc.DOp
open Go Go.Vc Go.Sha
set_option maxRecDepth 10000 in set_option maxHeartbeats 4000000 in
theorem WHash_calls {tW : TypeId} {wb : Nat} (x : WrG tW wb) (h : List Nat) (h8 : h.length = 8) (w : World) (hw : Has x.L w) (hnd : (x.L.map (·.1)).Nodup) :
    Turns Tryz.prog 124 [.pointer (some ⟨wb, 0, none⟩), .agg (u8s h).toArray] w x.L (Y := PutG tW wb (putW x.bs x.e h)) (fun _ => .tuple #[]) (fun y => y.1.L) := by
  refine enter Tryz.func124 rfl (Mem.init (S0 := x.L.map (·.1)) hw (fun p hp => List.mem_map_of_mem hp) hnd) rfl ?_
  refine z_ ?_
  refine Run.nw nbx ?_
  intro b3
  refine z_ ?_
  refine Run.a (Val.sliceA tabOk rfl rfl rfl rfl rfl) ?_
  have hp1 : ((b3, Obj.cells (u8s h).toArray 32 (0, 0)) :: x.L).Perm ((x.L ++ [(b3, Obj.cells (u8s h).toArray 32 (0, 0))]) ++ []) := (perm_of fun f => by (simp only [List.map_append, List.map_cons, List.map_nil, List.sum_append, List.sum_cons, List.sum_nil] <;> omega))
  refine Run.op1 (OpTo.callT Tryz.func122 hp1 (fun w' hm => put_calls x h (ap := [(b3, Obj.cells (u8s h).toArray 32 (0, 0))]) (by omega) w' (fun L hL => by rw [h8]; exact Src.at ⟨b3, 0, none⟩ 8 8 (u8s h) (by rw [u8s_len, h8]) (Rd.rowAll (hL _ m0))) ⟨_, _, by rw [h8]⟩ (hasFs hp1 hm).1 (hasFs hp1 hm).2)) ?_
  rintro ⟨y, hy⟩
  dsimp only at hy ⊢
  refine z_ ?_
  exact RQ.end0 rfl fun w' hm => Turns.of (Y := PutG tW wb (putW x.bs x.e h)) (V := fun _ => .tuple #[]) (L' := fun y => y.1.L) ⟨y, hy⟩ hm (Lr := [(b3, Obj.cells (u8s h).toArray 32 (0, 0))]) (perm_of fun f => by (simp only [List.map_append, List.map_cons, List.map_nil, List.sum_append, List.sum_cons, List.sum_nil] <;> omega))
/-- May a number be written in so many bytes? -/
def numBad (n k : Int) : Prop := k < 1 ∨ 7 < k ∨ n < 0 ∨ n.toNat / 2 ^ (8 * k.toNat) ≠ 0
instance (n k : Int) : Decidable (numBad n k) := by unfold numBad; infer_instance
def numW (bs : List Nat) (e n k : Int) : List Nat × Int := if e = 0 then (if numBad n k then (bs, 1) else putW bs 0 (le n.toNat k.toNat)) else (bs, e)
set_option maxRecDepth 10000 in set_option maxHeartbeats 4000000 in
theorem WNum_calls {tW : TypeId} {wb : Nat} (x : WrG tW wb) (n k : Int) (w : World) (hw : Has x.L w) (hnd : (x.L.map (·.1)).Nodup) :
    Turns Tryz.prog 107 [.pointer (some ⟨wb, 0, none⟩), .int .i64 n, .int .i64 k] w x.L (Y := PutG tW wb (numW x.bs x.e n k)) (fun _ => .tuple #[]) (fun y => y.1.L) := by
  refine enter Tryz.func107 rfl (Mem.init (S0 := x.L.map (·.1)) hw (fun p hp => List.mem_map_of_mem hp) hnd) rfl ?_
  by_cases he : x.e = 0
  · have hcells : x.L = (wb, Obj.cells #[x.v, .int .i64 0] tW (0, 0)) :: x.bl := by unfold Wr.L; rw [he]
    rw [he, hcells]
    by_cases h1 : k < 1
    · rw [show numW x.bs 0 n k = (x.bs, 1) from by unfold numW; rw [if_pos rfl, if_pos (.inl h1)]]
      refine z_ ?_
      refine Run.op1 (os1 #[x.v, .int .i64 1]) (fun _ => ?_)
      refine z_ ?_
      exact RQ.end0 rfl fun w' hm => Turns.of (Y := PutG tW wb (x.bs, 1)) (V := fun _ => .tuple #[]) (L' := fun y => y.1.L) ⟨⟨x.v, x.bl, x.bs, 1, x.own, x.nd, x.hl⟩, rfl⟩ hm (Lr := []) (by unfold Wr.L; exact (perm_of fun f => by (simp only [List.map_append, List.map_cons, List.map_nil, List.sum_append, List.sum_cons, List.sum_nil] <;> omega)))
    by_cases h7 : 7 < k
    · rw [show numW x.bs 0 n k = (x.bs, 1) from by unfold numW; rw [if_pos rfl, if_pos (.inr (.inl h7))]]
      refine z_ ?_
      refine Run.op1 (os1 #[x.v, .int .i64 1]) (fun _ => ?_)
      refine z_ ?_
      exact RQ.end0 rfl fun w' hm => Turns.of (Y := PutG tW wb (x.bs, 1)) (V := fun _ => .tuple #[]) (L' := fun y => y.1.L) ⟨⟨x.v, x.bl, x.bs, 1, x.own, x.nd, x.hl⟩, rfl⟩ hm (Lr := []) (by unfold Wr.L; exact (perm_of fun f => by (simp only [List.map_append, List.map_cons, List.map_nil, List.sum_append, List.sum_cons, List.sum_nil] <;> omega)))
    by_cases h0 : n < 0
    · rw [show numW x.bs 0 n k = (x.bs, 1) from by unfold numW; rw [if_pos rfl, if_pos (.inr (.inr (.inl h0)))]]
      refine z_ ?_
      refine Run.op1 (os1 #[x.v, .int .i64 1]) (fun _ => ?_)
      refine z_ ?_
      exact RQ.end0 rfl fun w' hm => Turns.of (Y := PutG tW wb (x.bs, 1)) (V := fun _ => .tuple #[]) (L' := fun y => y.1.L) ⟨⟨x.v, x.bl, x.bs, 1, x.own, x.nd, x.hl⟩, rfl⟩ hm (Lr := []) (by unfold Wr.L; exact (perm_of fun f => by (simp only [List.map_append, List.map_cons, List.map_nil, List.sum_append, List.sum_cons, List.sum_nil] <;> omega)))
    obtain ⟨n, rfl⟩ := Int.eq_ofNat_of_zero_le (Int.not_lt.1 h0)
    obtain ⟨k, rfl⟩ := Int.eq_ofNat_of_zero_le (show 0 ≤ k by omega)
    have hv : (n : Int).fdiv (2 ^ min (8 * (k : Int)).toNat IntKind.i64.bits) = ((n / 2 ^ (8 * k) : Nat) : Int) := by
      rw [show min (8 * (k : Int)).toNat IntKind.i64.bits = 8 * k from by show min _ 64 = _; omega, Int.fdiv_eq_ediv_of_nonneg _ (Int.le_of_lt (Int.pow_pos (by decide)))]
      rfl
    refine z_ ?_
    rw [hv]
    by_cases hs : n / 2 ^ (8 * k) = 0
    · rw [show numW x.bs 0 n k = putW x.bs 0 (le n k) from by unfold numW; rw [if_pos rfl, if_neg (by unfold numBad; simp only [Int.toNat_natCast]; omega)]; simp only [Int.toNat_natCast]]
      rw [hs]
      refine z_ ?_
      refine Run.op1 (OpTo.callMk Tryz.func123 rfl rfl rfl rfl rfl rfl (fun w' hm => digits_calls n k (by omega) w')) ?_
      rintro ⟨⟨v7, bl7⟩, hown⟩
      dsimp only at hown ⊢
      obtain ⟨a7, c7, rfl, hc7⟩ := hown.shape
      have hp1 : (bl7 ++ ((wb, Obj.cells #[x.v, .int .i64 0] tW (0, 0)) :: x.bl)).Perm (((⟨x.v, x.bl, x.bs, 0, x.own, x.nd, x.hl⟩ : WrG tW wb).L ++ bl7) ++ []) := by unfold Wr.L; exact (perm_of fun f => by (simp only [List.map_append, List.map_cons, List.map_nil, List.sum_append, List.sum_cons, List.sum_nil] <;> omega))
      refine z_ ?_
      refine Run.op1 (OpTo.callT Tryz.func122 hp1 (fun w' hm => put_calls (⟨x.v, x.bl, x.bs, 0, x.own, x.nd, x.hl⟩ : WrG tW wb) (le n k) (ap := bl7) (by rw [le_len]; omega) w' (fun L hL => by rw [le_len]; exact hown.src hL) ⟨_, _, by rw [le_len]⟩ (hasFs hp1 hm).1 (hasFs hp1 hm).2)) ?_
      rintro ⟨y, hy⟩
      dsimp only at hy ⊢
      refine z_ ?_
      exact RQ.end0 rfl fun w' hm => Turns.of (Y := PutG tW wb (putW x.bs 0 (le n k))) (V := fun _ => .tuple #[]) (L' := fun y => y.1.L) ⟨y, hy⟩ hm (Lr := bl7) (perm_of fun f => by (simp only [List.map_append, List.map_cons, List.map_nil, List.sum_append, List.sum_cons, List.sum_nil] <;> omega))
    · rw [show numW x.bs 0 n k = (x.bs, 1) from by unfold numW; rw [if_pos rfl, if_pos (.inr (.inr (.inr hs)))]]
      rw [show (((n / 2 ^ (8 * k) : Nat) : Int) != 0) = true from bne_iff_ne.2 (fun h => hs (Int.ofNat.inj h))]
      refine z_ ?_
      refine Run.op1 (os1 #[x.v, .int .i64 1]) (fun _ => ?_)
      refine z_ ?_
      exact RQ.end0 rfl fun w' hm => Turns.of (Y := PutG tW wb (x.bs, 1)) (V := fun _ => .tuple #[]) (L' := fun y => y.1.L) ⟨⟨x.v, x.bl, x.bs, 1, x.own, x.nd, x.hl⟩, rfl⟩ hm (Lr := []) (by unfold Wr.L; exact (perm_of fun f => by (simp only [List.map_append, List.map_cons, List.map_nil, List.sum_append, List.sum_cons, List.sum_nil] <;> omega)))
  · rw [show numW x.bs x.e n k = (x.bs, x.e) from if_neg he]
    refine z_ ?_
    exact RQ.end0 rfl fun w' hm => Turns.of (Y := PutG tW wb (x.bs, x.e)) (V := fun _ => .tuple #[]) (L' := fun y => y.1.L) ⟨x, rfl⟩ hm (Lr := []) (by unfold Wr.L; exact (perm_of fun f => by (simp only [List.map_append, List.map_cons, List.map_nil, List.sum_append, List.sum_cons, List.sum_nil] <;> omega)))
end Go.Proofs.YtkkfaffehbjdgaaGreatDoor

/- wire: the writer's end. -/
namespace Go.Proofs.YtkkfaffehbjdgaaGreatDoor
attribute [local irreducible] Go.Vc.Run Go.Vc.RC Go.Vc.RQ Go.Vc.DR Go.Vc.DOp
open Go Go.Vc Go.Sha
/-- What a writer hands out. -/
def endW (bs : List Nat) (e : Int) : List Nat := if e = 0 then bs else []
abbrev EndY (bs : List Nat) (e : Int) := {p : Value × Hp // Own 5 1 p.1 (endW bs e).length (u8s (endW bs e)) p.2}
set_option maxRecDepth 10000 in set_option maxHeartbeats 4000000 in
theorem WEnd_calls {tW : TypeId} {wb : Nat} (x : WrG tW wb) (w : World) (hw : Has x.L w) :
    Turns Tryz.prog 114 [.pointer (some ⟨wb, 0, none⟩)] w [] (Y := EndY x.bs x.e) (fun y => .tuple #[y.1.1, .int .i64 x.e]) (fun y => y.1.2) := by
  refine enter Tryz.func114 rfl (Mem.nil w []) rfl ?_
  have hcell := hw _ (List.mem_cons_self)
  have hc0 : w.cell? ⟨wb, 0, none⟩ = some x.v := by rw [cell_of_row w wb 0 _ _ _ hcell]; rfl
  have hc1 : w.cell? ⟨wb, 1, none⟩ = some (.int .i64 x.e) := by rw [cell_of_row w wb 1 _ _ _ hcell]; rfl
  have hsrc := x.own.srcW (fun q hq => hw q (List.mem_cons_of_mem _ hq))
  have hl := x.hl
  refine z_ ?_
  refine Run.a (vlo hc1) ?_
  by_cases he : x.e = 0
  · rw [he]
    refine z_ ?_
    refine Run.a (vlo hc0) ?_
    refine Run.op1 (OpTo.callMk Tryz.func127 rfl rfl rfl rfl rfl rfl (fun w' hm => Clone_calls x.v x.bs.length x.bs w' (hsrc.mem hm) (by omega))) ?_
    rintro ⟨⟨v7, bl7⟩, hown⟩
    dsimp only at hown ⊢
    refine z_ ?_
    exact RQ.ret2 rfl (Res.tmp rfl) (Res.tmp rfl) fun w' hm => Turns.of (Y := EndY x.bs 0) (V := fun y => .tuple #[y.1.1, .int .i64 0]) (L' := fun y => y.1.2) (Lst := []) ⟨(v7, bl7), hown⟩ hm (Lr := []) (perm_of fun f => by (simp only [List.map_append, List.map_cons, List.map_nil, List.sum_append, List.sum_cons, List.sum_nil] <;> omega))
  · refine z_ ?_
    (repeat refine RC.seq ?_); refine RC.drawS mixed (N := 6) rfl ?_
    refine dt 0 ?_
    refine dt 1 ?_
    refine dt 2 ?_
    refine DR.t 3 rfl (vlo hc1) ?_
    refine dt 4 ?_
    refine dt 5 ?_
    refine DR.done (by kernel_rfl) ?_
    refine z_ ?_
    have hn : endW x.bs x.e = [] := if_neg he
    exact RQ.ret2 rfl (Res.tmp rfl) (Res.tmp rfl) fun w' hm => Turns.of (Y := EndY x.bs x.e) (V := fun y => .tuple #[y.1.1, .int .i64 x.e]) (L' := fun y => y.1.2) (Lst := []) ⟨(.slice none 0 0, []), by rw [hn]; exact Own.nil⟩ hm (Lr := []) (perm_of fun f => by (simp only [List.map_append, List.map_cons, List.map_nil, List.sum_append, List.sum_cons, List.sum_nil] <;> omega))
end Go.Proofs.YtkkfaffehbjdgaaGreatDoor
end
section
set_option maxRecDepth 10000
/- wire: the reader. -/
namespace Go.Vc
open Go
end Go.Vc
namespace Go.Proofs.YtkkfaffehbjdgaaGreatDoor
attribute [local irreducible] Go.Vc.Run Go.Vc.RC Go.Vc.RQ Go.Vc.DR Go.Vc.DOp
open Go Go.Vc Go.Sha
end Go.Proofs.YtkkfaffehbjdgaaGreatDoor

/- wire: a new reader. -/
namespace Go.Vc
open Go
end Go.Vc
namespace Go.Proofs.YtkkfaffehbjdgaaGreatDoor
attribute [local irreducible] Go.Vc.Run Go.Vc.RC Go.Vc.RQ Go.Vc.DR Go.Vc.DOp
open Go Go.Vc Go.Sha
end Go.Proofs.YtkkfaffehbjdgaaGreatDoor

/- wire: the reader's Num. -/
namespace Go.Sha
end Go.Sha
namespace Go.Proofs.YtkkfaffehbjdgaaGreatDoor
attribute [local irreducible] Go.Vc.Run Go.Vc.RC Go.Vc.RQ Go.Vc.DR Go.Vc.DOp
open Go Go.Vc Go.Sha
end Go.Proofs.YtkkfaffehbjdgaaGreatDoor

/- wire: the reader's panics. -/
namespace Go.Proofs.YtkkfaffehbjdgaaGreatDoor
attribute [local irreducible] Go.Vc.Run Go.Vc.RC Go.Vc.RQ Go.Vc.DR Go.Vc.DOp
open Go Go.Vc Go.Sha
end Go.Proofs.YtkkfaffehbjdgaaGreatDoor

/- wire: the reader's Hash. -/
namespace Go.Vc
open Go
end Go.Vc
namespace Go.Proofs.YtkkfaffehbjdgaaGreatDoor
attribute [local irreducible] Go.Vc.Run Go.Vc.RC Go.Vc.RQ Go.Vc.DR Go.Vc.DOp
open Go Go.Vc Go.Sha
end Go.Proofs.YtkkfaffehbjdgaaGreatDoor

/- wire: the reader's Bytes. -/
namespace Go.Proofs.YtkkfaffehbjdgaaGreatDoor
attribute [local irreducible] Go.Vc.Run Go.Vc.RC Go.Vc.RQ Go.Vc.DR Go.Vc.DOp
open Go Go.Vc Go.Sha
end Go.Proofs.YtkkfaffehbjdgaaGreatDoor

/- wire: the reader's Bytes and Hash, short. -/
namespace Go.Proofs.YtkkfaffehbjdgaaGreatDoor
attribute [local irreducible] Go.Vc.Run Go.Vc.RC Go.Vc.RQ Go.Vc.DR Go.Vc.DOp
open Go Go.Vc Go.Sha
end Go.Proofs.YtkkfaffehbjdgaaGreatDoor
end
