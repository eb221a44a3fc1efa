import Derived.Test.YtmajfapnbchecaaGreatDoorVcR
import Derived.Test.YtmajfapnbchecaaGreatDoorVcT
set_option linter.unusedSimpArgs false
set_option linter.unusedVariables false
/- Steps that find by themselves what is known of calls and of cells. -/
namespace Go.Vc
open Go
/-- What a call gives, in every world that has but grown since w0. -/
def Knows (P : Program) (w0 : World) (f : FuncId) (vs : List Value) (v : Value) : Prop := ∃ fn, P.funcs[f]? = some fn ∧ (fn.name == "runtime.NumGoroutine") = false ∧ fn.body.isNone = false ∧ ∀ w, Fr [] w0 w → Gives P f vs v w
theorem Knows.mk {P : Program} {w0 : World} {f : FuncId} {vs : List Value} {v : Value} {fn : Func} (hf : P.funcs[f]? = some fn) (h : ∀ w, Fr [] w0 w → Gives P f vs v w) (hnm : (fn.name == "runtime.NumGoroutine") = false := by exact rfl) (hb : fn.body.isNone = false := by exact rfl) : Knows P w0 f vs v := ⟨fn, hf, hnm, hb, h⟩
theorem Knows.cv {P : Program} {w0 : World} {f : FuncId} {vs : List Value} {v v' : Value} (h : Knows P w0 f vs v) (e : v = v') : Knows P w0 f vs v' := e ▸ h
/-- Cells that stand there. -/
def At (w : World) (ad : Addr) (cs : List Value) : Prop := ∀ j u, cs[j]? = some u → w.cell? (ad.add j) = some u
/-- Of a row a part that is an array or a struct is read. -/
theorem rd_agg {ti : TI} {arr : Array Value} {off : Nat} {cs : List Value} (h : ∀ (j : Nat) (u : Value), cs[j]? = some u → arr[off + j]? = some u) (hl : cs.length = ti.size) (hz : 0 < ti.size) (ha : TypeDesc.agg ti.desc = true) : rdAt ti arr off = some (.agg cs.toArray) := by
  have hlast := h (ti.size - 1) (cs[ti.size - 1]'(by omega)) (List.getElem?_eq_getElem _)
  have hlt := (Array.getElem?_eq_some_iff.1 hlast).1
  unfold rdAt
  rw [ha, cond_true, Nat.ble_eq_true_of_le (by omega), cond_true]
  congr 2
  apply Array.ext_getElem?
  intro j
  by_cases hj : j < ti.size
  · have h1 := h j (cs[j]'(by omega)) (List.getElem?_eq_getElem _)
    rw [Array.getElem?_extract_of_lt (by omega), List.getElem?_toArray, List.getElem?_eq_getElem (by omega)]
    congr 1
    exact (Array.getElem?_eq_some_iff.1 h1).2
  · rw [Array.getElem?_eq_none (by rw [Array.size_extract]; omega), List.getElem?_toArray, List.getElem?_eq_none (by omega)]
end Go.Vc
namespace Go.Proofs.YtmajfapnbchecaaGreatDoor
open Go Go.Vc Go.Sha
section
variable {n : Nat} {w0 : World} {S0 : List Nat} {Q : Exit → Act → World → Prop} {E : Env} {L : Hp} {o : Oper} {d : Nat} {t : Nat} {ti : TI}
theorem cvK {f : FuncId} {xs : List Operand} {ts : Array TypeId} {vs : List Value} {v : Value}
    (hd : o.dst = some d := by exact rfl) (hn : Nat.blt d n = true := by exact rfl)
    (ho : o.op = .call { callee := .value (.func f), args := xs.toArray, argTypes := ts } := by exact rfl)
    (hx : lkAll E xs = some vs := by exact rfl) (h : Knows Tryz.prog w0 f vs v := by assumption) : OpTo Tryz.prog n w0 [] Q E L o (Y := Unit) (fun _ => (d, v) :: E) (fun _ => L) := by
  obtain ⟨fn, hf, hnm, hb, hc⟩ := h
  exact OpTo.callV hf hd hn ho hnm hb hx fun w hm => hc w hm.fr
theorem vlH {x : Operand} {b off : Nat} {arr : Array Value} {e : TypeId} {fz : Nat × Nat} {v : Value} (ho : o.op = .load t x := by exact rfl)
    (ht : tiGet tab t = some ti := by exact rfl) (hx : lk E x = some (.pointer (some ⟨b, off, none⟩)) := by exact rfl) (hm : (b, .cells arr e fz) ∈ L := by (repeat (first | exact List.mem_cons_self | apply List.mem_cons_of_mem | apply List.mem_append_right))) (hv : rdAt ti arr off = some v := by assumption) : Val Tryz.prog n w0 S0 E L o v := Val.load tabOk ho ht hx hm hv
theorem vloH {x : Operand} {ad : Addr} {v : Value} (ho : o.op = .load t x := by exact rfl) (ht : tiGet tab t = some ti := by exact rfl) (ha : TypeDesc.agg ti.desc = false := by exact rfl) (hx : lk E x = some (.pointer (some ad)) := by exact rfl) (hc : w0.cell? ad = some v := by assumption) (hS : ad.block ∉ S0 := by first | exact List.not_mem_nil | assumption) : Val Tryz.prog n w0 S0 E L o v := Val.loadOld1 tabOk ho ht hx ha hS hc
theorem vloW {x : Operand} {ad : Addr} {cs : List Value} (ho : o.op = .load t x := by exact rfl) (ht : tiGet tab t = some ti := by exact rfl) (ha : TypeDesc.agg ti.desc = true := by exact rfl) (hx : lk E x = some (.pointer (some ad)) := by exact rfl) (hc : At w0 ad cs := by assumption) (hl : cs.length = ti.size := by first | assumption | exact rfl) (hS : ad.block ∉ S0 := by first | exact List.not_mem_nil | assumption) : Val Tryz.prog n w0 S0 E L o (.agg cs.toArray) := Val.loadOld tabOk ho ht hx ha hS hl hc
theorem vlaH {x : Operand} {b : Nat} {arr : Array Value} {e : TypeId} {fz : Nat × Nat} (ho : o.op = .load t x := by exact rfl)
    (ht : tiGet tab t = some ti := by exact rfl) (ha : TypeDesc.agg ti.desc = true := by exact rfl) (hx : lk E x = some (.pointer (some ⟨b, 0, none⟩)) := by exact rfl) (hm : (b, .cells arr e fz) ∈ L := by (repeat (first | exact List.mem_cons_self | apply List.mem_cons_of_mem | apply List.mem_append_right))) (hv : arr.size = ti.size := by first | assumption | exact rfl) : Val Tryz.prog n w0 S0 E L o (.agg arr) := Val.loadAll tabOk ho ht hx ha hm hv
end
attribute [local irreducible] Run RC RQ DR DOp
/-- What goes by itself, with what is known. -/
theorem y_ {A B : Prop} (k : A) (f : Hd A → B := by (intro h; (repeat (first
  | (refine (?_ : Run _ _ _ _ _ _ _ _ _); first | refine Run.nil ?_ | refine Run.sk ?_ | refine Run.a Val.ra ?_ | refine Run.a Val.nes ?_ | refine Run.a Val.eqs ?_ | refine Run.a Val.eqf ?_ | refine Run.a Val.nef ?_ | refine Run.a Val.rmn ?_ | refine Run.a Val.qun ?_ | refine Run.a (Val.of rfl) ?_ | refine Run.a vf0 ?_ | refine Run.a vlH ?_ | refine Run.a vloH ?_ | refine Run.a vloW ?_ | refine Run.a vlaH ?_ | refine Run.op1 cvK (fun _ => ?_) | refine Run.a (vl (.int _ _)) ?_ | refine Run.a vla ?_ | refine Run.a (vl (.bool _)) ?_ | refine Run.a (vl (.slice _ _ _)) ?_ | refine Run.a (vl (.pointer _)) ?_ | refine Run.a vf ?_ | refine Run.a vpn ?_ | refine Run.a vlen ?_ | refine Run.a vci ?_ | refine Run.a vcv ?_ | refine Run.sku ?_ | ((fail_if_success (refine Run.lit ?_)); first | refine Run.gT ?_ | refine Run.gF ?_))
  | (refine (?_ : RC _ _ _ _ _ _ _ _); first | refine RC.seq ?_ | refine RC.region ?_ | refine RC.condT rfl rfl ?_ | refine RC.condF rfl rfl ?_ | refine RC.ret ?_ | refine RC.skip ?_ | refine RC.block ?_ | refine RC.exit ?_ | refine RC.cT ?_ | refine RC.cF ?_)
  | (refine (?_ : RQ _ _ _ _ _ _ _); first | refine RQ.next ?_ | refine RQ.thenRet ?_ | refine RQ.blockRet ?_ | refine RQ.blockNormal ?_ | refine RQ.thenExit ?_ | refine RQ.blockHere ?_ | refine RQ.blockPast rfl ?_))); exact h.h)) : B := f ⟨k⟩
/-- An early row of a region that draws, with what is known. -/
theorem dy {n : Nat} {w0 : World} {S0 : List Nat} {Q : Exit → Act → World → Prop} {E : Env} {L Lr : Hp} {o : Oper} {d fuel : Nat} {ops : Array Oper} {listed : Array Bool} {v : Value} (i : Nat) (k : DR Tryz.prog n w0 S0 ops Q Lr fuel (listed.setIfInBounds i true) ((d, v) :: E) L)
    (hi : ops[i]? = some o := by exact rfl) (hv : Val Tryz.prog n w0 S0 E Lr o v := by first | exact Val.ra | exact Val.nes | exact Val.eqs | exact Val.eqf | exact Val.nef | exact Val.rmn | exact Val.qun | exact Val.of rfl | exact vf0 | exact vlH | exact vloH | exact vloW | exact vlaH | exact vf | exact vpn | exact vl (.int _ _) | exact vl (.bool _) | exact vl (.slice _ _ _) | exact vl (.pointer _) | exact vla | exact vlen | exact vci | exact vcv)
    (hl : Lr.Sublist L := by first | exact List.Sublist.refl _ | exact List.nil_sublist _ | (repeat (first | exact List.nil_sublist _ | exact List.Sublist.refl _ | apply List.Sublist.cons_cons | apply List.Sublist.cons | apply Go.Vc.subApp)))
    (hw : Wanted n ops E o true := by first | exact Wanted.plain rfl | exact Wanted.guard rfl rfl rfl rfl) (hq : QP Q := by exact inferInstance) (hsel : Region.noSelect ops = true := by kernel_rfl) (hf : Region.free .any ops listed i = true := by kernel_rfl) (hr : (Region.ready .any ops listed).contains i = true := by kernel_rfl) (hcl : closedB ops listed = true := by kernel_rfl)
    (hd : o.dst = some d := by exact rfl) (hn : Nat.blt d n = true := by exact rfl) (hpu : npB ops i = false ∨ ∃ v', ev E o.op = some v' := by first | exact .inr ⟨_, rfl⟩ | exact .inl (by kernel_rfl)) : DR Tryz.prog n w0 S0 ops Q Lr (fuel + 1) listed E L := DR.take i hi hl hq hsel hf hr hcl hd hn hw hpu hv k
end Go.Proofs.YtmajfapnbchecaaGreatDoor

/- Steps that find indexes and fields of old cells; calls of function values that give a value. -/
namespace Go.Vc
open Go
section
variable {P : Program} {n : Nat} {w0 : World} {S0 : List Nat} {Q : Exit → Act → World → Prop} {E : Env} {L : Hp} {o : Oper} {d : Nat}
/-- A call of a function value that gives a value. -/
theorem OpTo.callFV {f : FuncId} {x : Operand} {first cap : Array Value} {xs : List Operand} {ts : Array TypeId} {fn : Func} {vs : List Value} (all : List Value) {v : Value} (hf : P.funcs[f]? = some fn) (hc : ∀ w, Mem w0 S0 L w → Gives P f all v w)
    (hd : o.dst = some d := by exact rfl) (hn : Nat.blt d n = true := by exact rfl)
    (ho : o.op = .call { callee := .value x, args := xs.toArray, argTypes := ts } := by exact rfl) (hfv : lk E x = some (.func (.func f) first cap) := by exact rfl) (hnm : (fn.name == "runtime.NumGoroutine") = false := by exact rfl) (hb : fn.body.isNone = false := by exact rfl)
    (hx : lkAll E xs = some vs := by exact rfl) (hall : first ++ vs.toArray ++ cap = all.toArray := by exact rfl) : OpTo P n w0 S0 Q E L o (Y := Unit) (fun _ => (d, v) :: E) (fun _ => L) := by
  refine OpTo.callF (Y := Unit) (Z := Empty) (V := fun _ => v) (L' := fun _ => L) (C := fun z => z.elim) (Lp := fun z => z.elim) hf (fun w hm => ?_) (fun z => z.elim) hd hn ho hfv hnm hb hx
  unfold Ends
  rw [hall]
  refine (hc w hm).mono ?_
  rintro e w' ⟨rfl, hfr⟩
  exact .inl ⟨(), rfl, hm.ext hfr⟩
end
section
variable {P : Program} {n : Nat} {w0 : World} {S0 : List Nat} {E : Env} {L : Hp} {o : Oper} {t : TypeId} {ti ei : TI} {T : List (Nat × TI)}
theorem Val.sHi (hT : TabOk P T) {x y : Operand} {a : Option Addr} {len cap el : Nat} (k : Nat) (ho : o.op = .slice t x none (some y) none) (ht : tiGet T t = some ti) (hd : ti.desc = .slice el) (he : tiGet T el = some ei)
    (hx : lk E x = some (.slice a len cap)) (hy : lk E y = some (.int .i64 k)) (h1 : k ≤ len) (h2 : len ≤ cap) : Val P n w0 S0 E L o (.slice a k cap) := by
  intro ac w hs _
  have hu := (hT _ _ ht).1
  rw [hd] at hu
  have b3 := run_sliceBound (P := P) w .i64 k cap .sliceAcap (by omega) (by omega)
  cases a with
  | none => simp [execOp, ho, hs.eval hx, hs.eval hy, Instr.sliceAt, Instr.slice, run_underlying hu, Instr.sliceBounds, (hT _ _ he).size, b3]
  | some ad => simp [execOp, ho, hs.eval hx, hs.eval hy, Instr.sliceAt, Instr.slice, run_underlying hu, Instr.sliceBounds, (hT _ _ he).size, b3, Addr.add]
theorem Val.mkFn {f : FuncId} {fs cs : List Operand} {us vs : List Value} (ho : o.op = .makeFunc (.func f) fs.toArray cs.toArray := by exact rfl) (hu : lkAll E fs = some us := by exact rfl) (hv : lkAll E cs = some vs := by exact rfl) : Val P n w0 S0 E L o (.func (.func f) us.toArray vs.toArray) := by
  intro ac w hs _
  have e1 := hs.evalAll hu
  have e2 := hs.evalAll hv
  simp [execOp, ho, Instr.makeFunc, ← e1, ← e2]
end
theorem SrcW.tk {w : World} {sz m c k : Nat} {a : Option Addr} {cs : List Value} (h : SrcW w sz (.slice a m c) m cs) (hk : k ≤ m) : SrcW w sz (.slice a k c) k (cs.take (k * sz)) := by
  cases h with
  | nil =>
    have : k = 0 := by omega
    subst this
    rw [Nat.zero_mul, List.take_zero]
    exact .nil
  | «at» ad _ _ _ hl hc hr =>
    refine .at ad _ _ _ ?_ (by omega) fun j u hj => ?_
    · rw [List.length_take, hl]
      have := Nat.mul_le_mul_right sz hk
      omega
    · rw [List.getElem?_take] at hj
      split at hj
      · exact hr j u hj
      · cases hj
theorem At.mk {w : World} {ad : Addr} {cs : List Value} (h : ∀ j u, cs[j]? = some u → w.cell? (ad.add j) = some u) : At w ad cs := h
end Go.Vc
namespace Go.Proofs.YtmajfapnbchecaaGreatDoor
open Go Go.Vc Go.Sha
section
variable {n : Nat} {w0 : World} {S0 : List Nat} {Q : Exit → Act → World → Prop} {E : Env} {L : Hp} {o : Oper} {d : Nat} {t : Nat} {ti : TI}
theorem vixA {x y : Operand} {ad : Addr} {len cap el j : Nat} {k : IntKind} {z : Int} {ei : TI} (ho : o.op = .indexAddr t x y := by exact rfl) (ht : tiGet tab t = some ti := by exact rfl) (hd : ti.desc = .slice el := by exact rfl) (he : tiGet tab el = some ei := by exact rfl) (hx : lk E x = some (.slice (some ad) len cap) := by exact rfl) (hy : lk E y = some (.int k z) := by exact rfl) (hz : z = (j : Int) := by exact rfl) (hj : j < len := by first | assumption | omega) :
    Val Tryz.prog n w0 S0 E L o (.pointer (some (ad.add (j * ei.size)))) := Val.ixS tabOk j ho ht hd he hx hy hz hj rfl
theorem vfAA {x : Operand} {ad : Addr} {i el off' bo : Nat} {em : Bool} {nm tg pp : String} {fs : Array Field} {ei : TI} (ho : o.op = .fieldAddr t x i := by exact rfl) (hx : lk E x = some (.pointer (some (ad.add off'))) := by exact rfl) {off : Nat} (ht : tiGet tab t = some ti := by exact rfl) (hd : ti.desc = .struct fs := by exact rfl) (hf : fs[i]? = some ⟨nm, el, off, em, tg, pp, bo⟩ := by exact rfl) (he : tiGet tab el = some ei := by exact rfl)
    (hz : Nat.beq ei.size 0 = false := by exact rfl) : Val Tryz.prog n w0 S0 E L o (.pointer (some ((ad.add off').add off))) := Val.fieldAddrA tabOk ho ht hd hf rfl he hz hx
/-- A struct, or an array, that is built of nothing. -/
theorem vbz {cells : Array Value} {fs : List Field} {ps : List (Nat × Nat)} (ho : o.op = .build t #[] := by exact rfl) (ht : tiGet tab t = some ti := by exact rfl) (hd : ti.desc = .struct fs.toArray := by exact rfl) (hp : placesOf tab fs = some ps := by exact rfl) (hz : ti.zero.cells = cells := by exact rfl) : Val Tryz.prog n w0 S0 E L o (.agg cells) := by
  subst hz
  exact Val.buildS tabOk (parts := []) (vs := []) ho ht hd hp rfl rfl
theorem vbaz {cells : Array Value} {len e : TypeId} {ei : TI} (ho : o.op = .build t #[] := by exact rfl) (ht : tiGet tab t = some ti := by exact rfl) (hd : ti.desc = .array len e := by exact rfl) (he : tiGet tab e = some ei := by exact rfl) (hz : ti.zero.cells = cells := by exact rfl) : Val Tryz.prog n w0 S0 E L o (.agg cells) := by
  subst hz
  exact Val.buildA tabOk (parts := []) (vs := []) ho ht hd he rfl rfl
end
attribute [local irreducible] Run RC RQ DR DOp
/-- What goes by itself, with what is known. -/
theorem x_ {A B : Prop} (k : A) (f : Hd A → B := by (intro h; (repeat (first
  | (refine (?_ : Run _ _ _ _ _ _ _ _ _); first | refine Run.nil ?_ | refine Run.sk ?_ | refine Run.a Val.ra ?_ | refine Run.a Val.nes ?_ | refine Run.a Val.eqs ?_ | refine Run.a Val.eqf ?_ | refine Run.a Val.nef ?_ | refine Run.a Val.rmn ?_ | refine Run.a Val.qun ?_ | refine Run.a (Val.of rfl) ?_ | refine Run.a vf0 ?_ | refine Run.a vlH ?_ | refine Run.a vloH ?_ | refine Run.a vloW ?_ | refine Run.a vlaH ?_ | refine Run.op1 cvK (fun _ => ?_) | refine Run.a vixA ?_ | refine Run.a vfAA ?_ | refine Run.a (vl (.int _ _)) ?_ | refine Run.a vla ?_ | refine Run.a (vl (.bool _)) ?_ | refine Run.a (vl (.slice _ _ _)) ?_ | refine Run.a (vl (.pointer _)) ?_ | refine Run.a vf ?_ | refine Run.a vpn ?_ | refine Run.a vlen ?_ | refine Run.a vci ?_ | refine Run.a vcv ?_ | refine Run.a vbz ?_ | refine Run.a vbaz ?_ | refine Run.sku ?_ | ((fail_if_success (refine Run.lit ?_)); first | refine Run.gT ?_ | refine Run.gF ?_))
  | (refine (?_ : RC _ _ _ _ _ _ _ _); first | refine RC.seq ?_ | refine RC.region ?_ | refine RC.condT rfl rfl ?_ | refine RC.condF rfl rfl ?_ | refine RC.ret ?_ | refine RC.skip ?_ | refine RC.block ?_ | refine RC.exit ?_ | refine RC.cT ?_ | refine RC.cF ?_)
  | (refine (?_ : RQ _ _ _ _ _ _ _); first | refine RQ.next ?_ | refine RQ.thenRet ?_ | refine RQ.blockRet ?_ | refine RQ.blockNormal ?_ | refine RQ.thenExit ?_ | refine RQ.blockHere ?_ | refine RQ.blockPast rfl ?_))); exact h.h)) : B := f ⟨k⟩
end Go.Proofs.YtmajfapnbchecaaGreatDoor
