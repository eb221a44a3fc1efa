/- Lemmas. -/
import GoSem.Op.FloatCmp
import Derived.Test.YtfoeakgnkfcbjaaGreatDoorPt06
set_option linter.unusedSimpArgs false
set_option linter.unusedVariables false
section
/- Steps that find by themselves what is known of calls and of cells. -/
namespace Go.Vc
open Go
/-- What a call gives, in every world that has but grown since w0. -/
def Knows (P : Program) (w0 : World) (f : FuncId) (vs : List Value) (v : Value) : Prop := ∃ fn, P.funcs[f]? = some fn ∧ (fn.name == "runtime.NumGoroutine") = false ∧ fn.body.isNone = false ∧ ∀ w, Fr [] w0 w → Gives P f vs v w
theorem Knows.mk {P : Program} {w0 : World} {f : FuncId} {vs : List Value} {v : Value} {fn : Func} (hf : P.funcs[f]? = some fn) (h : ∀ w, Fr [] w0 w → Gives P f vs v w) (hnm : (fn.name == "runtime.NumGoroutine") = false := by exact rfl) (hb : fn.body.isNone = false := by exact rfl) : Knows P w0 f vs v := ⟨fn, hf, hnm, hb, h⟩
/-- Cells that stand there. -/
def At (w : World) (ad : Addr) (cs : List Value) : Prop := ∀ j u, cs[j]? = some u → w.cell? (ad.add j) = some u
/-- Of a row a part that is an array or a struct is read. -/
theorem rd_agg {ti : TI} {arr : Array Value} {off : Nat} {cs : List Value} (h : ∀ (j : Nat) (u : Value), cs[j]? = some u → arr[off + j]? = some u) (hl : cs.length = ti.size) (hz : 0 < ti.size) (ha : TypeDesc.agg ti.desc = true) : rdAt ti arr off = some (.agg cs.toArray) := by
  have hlast := h (ti.size - 1) (cs[ti.size - 1]'(by omega)) (List.getElem?_eq_getElem _)
  have hlt := (Array.getElem?_eq_some_iff.1 hlast).1
  unfold rdAt
  rw [ha, cond_true, Nat.ble_eq_true_of_le (by omega), cond_true]
  congr 2
  apply Array.ext_getElem?
  intro j
  by_cases hj : j < ti.size
  · have h1 := h j (cs[j]'(by omega)) (List.getElem?_eq_getElem _)
    rw [Array.getElem?_extract_of_lt (by omega), List.getElem?_toArray, List.getElem?_eq_getElem (by omega)]
    congr 1
    exact (Array.getElem?_eq_some_iff.1 h1).2
  · rw [Array.getElem?_eq_none (by rw [Array.size_extract]; omega), List.getElem?_toArray, List.getElem?_eq_none (by omega)]
end Go.Vc
namespace Go.Proofs.YtfoeakgnkfcbjaaGreatDoor
open Go Go.Vc Go.Sha
section
variable {n : Nat} {w0 : World} {S0 : List Nat} {Q : Exit → Act → World → Prop} {E : Env} {L : Hp} {o : Oper} {d : Nat} {t : Nat} {ti : TI}
theorem cvK {f : FuncId} {xs : List Operand} {ts : Array TypeId} {vs : List Value} {v : Value}
    (hd : o.dst = some d := by exact rfl) (hn : Nat.blt d n = true := by exact rfl)
    (ho : o.op = .call { callee := .value (.func f), args := xs.toArray, argTypes := ts } := by exact rfl)
    (hx : lkAll E xs = some vs := by exact rfl) (h : Knows Tryz.prog w0 f vs v := by assumption) : OpTo Tryz.prog n w0 [] Q E L o (Y := Unit) (fun _ => (d, v) :: E) (fun _ => L) := by
  obtain ⟨fn, hf, hnm, hb, hc⟩ := h
  exact OpTo.callV hf hd hn ho hnm hb hx fun w hm => hc w hm.fr
theorem vlH {x : Operand} {b off : Nat} {arr : Array Value} {e : TypeId} {fz : Nat × Nat} {v : Value} (ho : o.op = .load t x := by exact rfl)
    (ht : tiGet tab t = some ti := by exact rfl) (hx : lk E x = some (.pointer (some ⟨b, off, none⟩)) := by exact rfl) (hm : (b, .cells arr e fz) ∈ L := by (repeat (first | exact List.mem_cons_self | apply List.mem_cons_of_mem | apply List.mem_append_right))) (hv : rdAt ti arr off = some v := by assumption) : Val Tryz.prog n w0 S0 E L o v := Val.load tabOk ho ht hx hm hv
theorem vloH {x : Operand} {ad : Addr} {v : Value} (ho : o.op = .load t x := by exact rfl) (ht : tiGet tab t = some ti := by exact rfl) (ha : TypeDesc.agg ti.desc = false := by exact rfl) (hx : lk E x = some (.pointer (some ad)) := by exact rfl) (hc : w0.cell? ad = some v := by assumption) (hS : ad.block ∉ S0 := by first | exact List.not_mem_nil | assumption) : Val Tryz.prog n w0 S0 E L o v := Val.loadOld1 tabOk ho ht hx ha hS hc
theorem vloW {x : Operand} {ad : Addr} {cs : List Value} (ho : o.op = .load t x := by exact rfl) (ht : tiGet tab t = some ti := by exact rfl) (ha : TypeDesc.agg ti.desc = true := by exact rfl) (hx : lk E x = some (.pointer (some ad)) := by exact rfl) (hc : At w0 ad cs := by assumption) (hl : cs.length = ti.size := by first | assumption | exact rfl) (hS : ad.block ∉ S0 := by first | exact List.not_mem_nil | assumption) : Val Tryz.prog n w0 S0 E L o (.agg cs.toArray) := Val.loadOld tabOk ho ht hx ha hS hl hc
theorem vlaH {x : Operand} {b : Nat} {arr : Array Value} {e : TypeId} {fz : Nat × Nat} (ho : o.op = .load t x := by exact rfl)
    (ht : tiGet tab t = some ti := by exact rfl) (ha : TypeDesc.agg ti.desc = true := by exact rfl) (hx : lk E x = some (.pointer (some ⟨b, 0, none⟩)) := by exact rfl) (hm : (b, .cells arr e fz) ∈ L := by (repeat (first | exact List.mem_cons_self | apply List.mem_cons_of_mem | apply List.mem_append_right))) (hv : arr.size = ti.size := by first | assumption | exact rfl) : Val Tryz.prog n w0 S0 E L o (.agg arr) := Val.loadAll tabOk ho ht hx ha hm hv
end
attribute [local irreducible] Run RC RQ DR DOp
/-- What goes by itself, with what is known. -/
theorem y_ {A B : Prop} (k : A) (f : Hd A → B := by (intro h; (repeat (first
  | (refine (?_ : Run _ _ _ _ _ _ _ _ _); first | refine Run.nil ?_ | refine Run.sk ?_ | refine Run.a Val.ra ?_ | refine Run.a Val.nes ?_ | refine Run.a Val.eqs ?_ | refine Run.a Val.eqf ?_ | refine Run.a Val.nef ?_ | refine Run.a Val.rmn ?_ | refine Run.a Val.qun ?_ | refine Run.a (Val.of rfl) ?_ | refine Run.a vf0 ?_ | refine Run.a vlH ?_ | refine Run.a vloH ?_ | refine Run.a vloW ?_ | refine Run.a vlaH ?_ | refine Run.op1 cvK (fun _ => ?_) | refine Run.a (vl (.int _ _)) ?_ | refine Run.a vla ?_ | refine Run.a (vl (.bool _)) ?_ | refine Run.a (vl (.slice _ _ _)) ?_ | refine Run.a (vl (.pointer _)) ?_ | refine Run.a vf ?_ | refine Run.a vpn ?_ | refine Run.a vlen ?_ | refine Run.a vci ?_ | refine Run.a vcv ?_ | refine Run.sku ?_ | ((fail_if_success (refine Run.lit ?_)); first | refine Run.gT ?_ | refine Run.gF ?_))
  | (refine (?_ : RC _ _ _ _ _ _ _ _); first | refine RC.seq ?_ | refine RC.region ?_ | refine RC.condT rfl rfl ?_ | refine RC.condF rfl rfl ?_ | refine RC.ret ?_ | refine RC.skip ?_ | refine RC.block ?_ | refine RC.exit ?_ | refine RC.cT ?_ | refine RC.cF ?_)
  | (refine (?_ : RQ _ _ _ _ _ _ _); first | refine RQ.next ?_ | refine RQ.thenRet ?_ | refine RQ.blockRet ?_ | refine RQ.blockNormal ?_ | refine RQ.thenExit ?_ | refine RQ.blockHere ?_ | refine RQ.blockPast rfl ?_))); exact h.h)) : B := f ⟨k⟩
/-- An early row of a region that draws, with what is known. -/
theorem dy {n : Nat} {w0 : World} {S0 : List Nat} {Q : Exit → Act → World → Prop} {E : Env} {L Lr : Hp} {o : Oper} {d fuel : Nat} {ops : Array Oper} {listed : Array Bool} {v : Value} (i : Nat) (k : DR Tryz.prog n w0 S0 ops Q Lr fuel (listed.setIfInBounds i true) ((d, v) :: E) L)
    (hi : ops[i]? = some o := by exact rfl) (hv : Val Tryz.prog n w0 S0 E Lr o v := by first | exact Val.ra | exact Val.nes | exact Val.eqs | exact Val.eqf | exact Val.nef | exact Val.rmn | exact Val.qun | exact Val.of rfl | exact vf0 | exact vlH | exact vloH | exact vloW | exact vlaH | exact vf | exact vpn | exact vl (.int _ _) | exact vl (.bool _) | exact vl (.slice _ _ _) | exact vl (.pointer _) | exact vla | exact vlen | exact vci | exact vcv)
    (hl : Lr.Sublist L := by first | exact List.Sublist.refl _ | exact List.nil_sublist _ | (repeat (first | exact List.nil_sublist _ | exact List.Sublist.refl _ | apply List.Sublist.cons_cons | apply List.Sublist.cons | apply Go.Vc.subApp)))
    (hw : Wanted n ops E o true := by first | exact Wanted.plain rfl | exact Wanted.guard rfl rfl rfl rfl) (hq : QP Q := by exact inferInstance) (hsel : Region.noSelect ops = true := by kernel_rfl) (hf : Region.free .any ops listed i = true := by kernel_rfl) (hr : (Region.ready .any ops listed).contains i = true := by kernel_rfl) (hcl : closedB ops listed = true := by kernel_rfl)
    (hd : o.dst = some d := by exact rfl) (hn : Nat.blt d n = true := by exact rfl) (hpu : npB ops i = false ∨ ∃ v', ev E o.op = some v' := by first | exact .inr ⟨_, rfl⟩ | exact .inl (by kernel_rfl)) : DR Tryz.prog n w0 S0 ops Q Lr (fuel + 1) listed E L := DR.take i hi hl hq hsel hf hr hcl hd hn hw hpu hv k
end Go.Proofs.YtfoeakgnkfcbjaaGreatDoor

/- Steps that find indexes and fields of old cells; calls of function values that give a value. -/
namespace Go.Vc
open Go
section
variable {P : Program} {n : Nat} {w0 : World} {S0 : List Nat} {Q : Exit → Act → World → Prop} {E : Env} {L : Hp} {o : Oper} {d : Nat}
/-- A call of a function value that gives a value. -/
theorem OpTo.callFV {f : FuncId} {x : Operand} {first cap : Array Value} {xs : List Operand} {ts : Array TypeId} {fn : Func} {vs : List Value} (all : List Value) {v : Value} (hf : P.funcs[f]? = some fn) (hc : ∀ w, Mem w0 S0 L w → Gives P f all v w)
    (hd : o.dst = some d := by exact rfl) (hn : Nat.blt d n = true := by exact rfl)
    (ho : o.op = .call { callee := .value x, args := xs.toArray, argTypes := ts } := by exact rfl) (hfv : lk E x = some (.func (.func f) first cap) := by exact rfl) (hnm : (fn.name == "runtime.NumGoroutine") = false := by exact rfl) (hb : fn.body.isNone = false := by exact rfl)
    (hx : lkAll E xs = some vs := by exact rfl) (hall : first ++ vs.toArray ++ cap = all.toArray := by exact rfl) : OpTo P n w0 S0 Q E L o (Y := Unit) (fun _ => (d, v) :: E) (fun _ => L) := by
  refine OpTo.callF (Y := Unit) (Z := Empty) (V := fun _ => v) (L' := fun _ => L) (C := fun z => z.elim) (Lp := fun z => z.elim) hf (fun w hm => ?_) (fun z => z.elim) hd hn ho hfv hnm hb hx
  unfold Ends
  rw [hall]
  refine (hc w hm).mono ?_
  rintro e w' ⟨rfl, hfr⟩
  exact .inl ⟨(), rfl, hm.ext hfr⟩
end
section
variable {P : Program} {n : Nat} {w0 : World} {S0 : List Nat} {E : Env} {L : Hp} {o : Oper} {t : TypeId} {ti ei : TI} {T : List (Nat × TI)}
theorem Val.sHi (hT : TabOk P T) {x y : Operand} {a : Option Addr} {len cap el : Nat} (k : Nat) (ho : o.op = .slice t x none (some y) none) (ht : tiGet T t = some ti) (hd : ti.desc = .slice el) (he : tiGet T el = some ei)
    (hx : lk E x = some (.slice a len cap)) (hy : lk E y = some (.int .i64 k)) (h1 : k ≤ len) (h2 : len ≤ cap) : Val P n w0 S0 E L o (.slice a k cap) := by
  intro ac w hs _
  have hu := (hT _ _ ht).1
  rw [hd] at hu
  have b3 := run_sliceBound (P := P) w .i64 k cap .sliceAcap (by omega) (by omega)
  cases a with
  | none => simp [execOp, ho, hs.eval hx, hs.eval hy, Instr.sliceAt, Instr.slice, run_underlying hu, Instr.sliceBounds, (hT _ _ he).size, b3]
  | some ad => simp [execOp, ho, hs.eval hx, hs.eval hy, Instr.sliceAt, Instr.slice, run_underlying hu, Instr.sliceBounds, (hT _ _ he).size, b3, Addr.add]
theorem Val.mkFn {f : FuncId} {fs cs : List Operand} {us vs : List Value} (ho : o.op = .makeFunc (.func f) fs.toArray cs.toArray := by exact rfl) (hu : lkAll E fs = some us := by exact rfl) (hv : lkAll E cs = some vs := by exact rfl) : Val P n w0 S0 E L o (.func (.func f) us.toArray vs.toArray) := by
  intro ac w hs _
  have e1 := hs.evalAll hu
  have e2 := hs.evalAll hv
  simp [execOp, ho, Instr.makeFunc, ← e1, ← e2]
end
theorem SrcW.tk {w : World} {sz m c k : Nat} {a : Option Addr} {cs : List Value} (h : SrcW w sz (.slice a m c) m cs) (hk : k ≤ m) : SrcW w sz (.slice a k c) k (cs.take (k * sz)) := by
  cases h with
  | nil =>
    have : k = 0 := by omega
    subst this
    rw [Nat.zero_mul, List.take_zero]
    exact .nil
  | «at» ad _ _ _ hl hc hr =>
    refine .at ad _ _ _ ?_ (by omega) fun j u hj => ?_
    · rw [List.length_take, hl]
      have := Nat.mul_le_mul_right sz hk
      omega
    · rw [List.getElem?_take] at hj
      split at hj
      · exact hr j u hj
      · cases hj
theorem At.mk {w : World} {ad : Addr} {cs : List Value} (h : ∀ j u, cs[j]? = some u → w.cell? (ad.add j) = some u) : At w ad cs := h
end Go.Vc
namespace Go.Proofs.YtfoeakgnkfcbjaaGreatDoor
open Go Go.Vc Go.Sha
section
variable {n : Nat} {w0 : World} {S0 : List Nat} {Q : Exit → Act → World → Prop} {E : Env} {L : Hp} {o : Oper} {d : Nat} {t : Nat} {ti : TI}
theorem vixA {x y : Operand} {ad : Addr} {len cap el j : Nat} {k : IntKind} {z : Int} {ei : TI} (ho : o.op = .indexAddr t x y := by exact rfl) (ht : tiGet tab t = some ti := by exact rfl) (hd : ti.desc = .slice el := by exact rfl) (he : tiGet tab el = some ei := by exact rfl) (hx : lk E x = some (.slice (some ad) len cap) := by exact rfl) (hy : lk E y = some (.int k z) := by exact rfl) (hz : z = (j : Int) := by exact rfl) (hj : j < len := by first | assumption | omega) :
    Val Tryz.prog n w0 S0 E L o (.pointer (some (ad.add (j * ei.size)))) := Val.ixS tabOk j ho ht hd he hx hy hz hj rfl
theorem vfAA {x : Operand} {ad : Addr} {i el off' bo : Nat} {em : Bool} {nm tg pp : String} {fs : Array Field} {ei : TI} (ho : o.op = .fieldAddr t x i := by exact rfl) (hx : lk E x = some (.pointer (some (ad.add off'))) := by exact rfl) {off : Nat} (ht : tiGet tab t = some ti := by exact rfl) (hd : ti.desc = .struct fs := by exact rfl) (hf : fs[i]? = some ⟨nm, el, off, em, tg, pp, bo⟩ := by exact rfl) (he : tiGet tab el = some ei := by exact rfl)
    (hz : Nat.beq ei.size 0 = false := by exact rfl) : Val Tryz.prog n w0 S0 E L o (.pointer (some ((ad.add off').add off))) := Val.fieldAddrA tabOk ho ht hd hf rfl he hz hx
/-- A struct, or an array, that is built of nothing. -/
theorem vbz {cells : Array Value} {fs : List Field} {ps : List (Nat × Nat)} (ho : o.op = .build t #[] := by exact rfl) (ht : tiGet tab t = some ti := by exact rfl) (hd : ti.desc = .struct fs.toArray := by exact rfl) (hp : placesOf tab fs = some ps := by exact rfl) (hz : ti.zero.cells = cells := by exact rfl) : Val Tryz.prog n w0 S0 E L o (.agg cells) := by
  subst hz
  exact Val.buildS tabOk (parts := []) (vs := []) ho ht hd hp rfl rfl
theorem vbaz {cells : Array Value} {len e : TypeId} {ei : TI} (ho : o.op = .build t #[] := by exact rfl) (ht : tiGet tab t = some ti := by exact rfl) (hd : ti.desc = .array len e := by exact rfl) (he : tiGet tab e = some ei := by exact rfl) (hz : ti.zero.cells = cells := by exact rfl) : Val Tryz.prog n w0 S0 E L o (.agg cells) := by
  subst hz
  exact Val.buildA tabOk (parts := []) (vs := []) ho ht hd he rfl rfl
end
attribute [local irreducible] Run RC RQ DR DOp
/-- What goes by itself, with what is known. -/
theorem x_ {A B : Prop} (k : A) (f : Hd A → B := by (intro h; (repeat (first
  | (refine (?_ : Run _ _ _ _ _ _ _ _ _); first | refine Run.nil ?_ | refine Run.sk ?_ | refine Run.a Val.ra ?_ | refine Run.a Val.nes ?_ | refine Run.a Val.eqs ?_ | refine Run.a Val.eqf ?_ | refine Run.a Val.nef ?_ | refine Run.a Val.rmn ?_ | refine Run.a Val.qun ?_ | refine Run.a (Val.of rfl) ?_ | refine Run.a vf0 ?_ | refine Run.a vlH ?_ | refine Run.a vloH ?_ | refine Run.a vloW ?_ | refine Run.a vlaH ?_ | refine Run.op1 cvK (fun _ => ?_) | refine Run.a vixA ?_ | refine Run.a vfAA ?_ | refine Run.a (vl (.int _ _)) ?_ | refine Run.a vla ?_ | refine Run.a (vl (.bool _)) ?_ | refine Run.a (vl (.slice _ _ _)) ?_ | refine Run.a (vl (.pointer _)) ?_ | refine Run.a vf ?_ | refine Run.a vpn ?_ | refine Run.a vlen ?_ | refine Run.a vci ?_ | refine Run.a vcv ?_ | refine Run.a vbz ?_ | refine Run.a vbaz ?_ | refine Run.sku ?_ | ((fail_if_success (refine Run.lit ?_)); first | refine Run.gT ?_ | refine Run.gF ?_))
  | (refine (?_ : RC _ _ _ _ _ _ _ _); first | refine RC.seq ?_ | refine RC.region ?_ | refine RC.condT rfl rfl ?_ | refine RC.condF rfl rfl ?_ | refine RC.ret ?_ | refine RC.skip ?_ | refine RC.block ?_ | refine RC.exit ?_ | refine RC.cT ?_ | refine RC.cF ?_)
  | (refine (?_ : RQ _ _ _ _ _ _ _); first | refine RQ.next ?_ | refine RQ.thenRet ?_ | refine RQ.blockRet ?_ | refine RQ.blockNormal ?_ | refine RQ.thenExit ?_ | refine RQ.blockHere ?_ | refine RQ.blockPast rfl ?_))); exact h.h)) : B := f ⟨k⟩
end Go.Proofs.YtfoeakgnkfcbjaaGreatDoor
end
section
/- floats: what is work, as both reckon it (plain). -/
namespace Go.Sha
open Ieee
theorem d_sw : Ieee.double.signWeight = 9223372036854775808 := by decide
theorem d_bin : Ieee.double.binade = 4503599627370496 := by decide
theorem d_inf : Ieee.double.infRung = 9218868437227405312 := by decide
theorem d_lp : Ieee.double.leastPlace = -1074 := by decide
theorem d_fb : Ieee.double.fractionBits = 52 := rfl
theorem read_eq (x : Nat) : Ieee.double.read x = if x % 9223372036854775808 < 4503599627370496 then .number (x / 9223372036854775808 % 2 == 1) (x % 9223372036854775808) (-1074) else if x % 9223372036854775808 < 9218868437227405312 then .number (x / 9223372036854775808 % 2 == 1) (4503599627370496 + x % 9223372036854775808 % 4503599627370496) (-1074 + ((x % 9223372036854775808 / 4503599627370496 - 1 : Nat) : Int)) else if x % 9223372036854775808 = 9218868437227405312 then .infinity (x / 9223372036854775808 % 2 == 1) else .nan (x / 9223372036854775808 % 2 == 1) (x % 9223372036854775808 - 9218868437227405312) := by
  unfold Ieee.Format.read
  rw [d_sw, d_bin, d_inf, d_lp]
/-- What a word reads as, if it is no NaN and no infinity and has no sign. -/
theorem read_pos {x : Nat} (h : x < 9218868437227405312) : ∃ m i, Ieee.double.read x = .number false m i ∧ m < 9007199254740992 ∧ -1074 ≤ i ∧ (0 ≤ i → 4503599627370496 ≤ m) := by
  have e1 : x % 9223372036854775808 = x := Nat.mod_eq_of_lt (by omega)
  have e2 : x / 9223372036854775808 = 0 := Nat.div_eq_of_lt (by omega)
  rw [read_eq, e1, e2]
  by_cases hs : x < 4503599627370496
  · rw [if_pos hs]
    exact ⟨x, -1074, rfl, by omega, by omega, by omega⟩
  · rw [if_neg hs, if_pos h]
    exact ⟨_, _, rfl, by omega, by omega, by omega⟩
/-- A whole number that the format has is written as it is. -/
theorem read_whole {n : Nat} (h0 : 0 < n) (h : n < 9007199254740992) : Ieee.double.read (Ieee.double.nearest false n 0) = .number false (n * 2 ^ (52 - n.log2)) ((n.log2 : Int) - 52) ∧ n.log2 ≤ 52 := by
  have hl : n.log2 < 53 := (Nat.log2_lt (by omega)).2 h
  refine ⟨?_, by omega⟩
  obtain ⟨L, hL⟩ : ∃ L, L = n.log2 := ⟨_, rfl⟩
  have hlo : 2 ^ L ≤ n := by rw [hL]; exact Nat.log2_self_le (by omega)
  have hhi : n < 2 ^ (L + 1) := by rw [hL]; exact Nat.lt_log2_self
  rw [← hL] at hl ⊢
  obtain ⟨K, hK⟩ : ∃ K, K = n * 2 ^ (52 - L) := ⟨_, rfl⟩
  have hK1 : 4503599627370496 ≤ K := by
    have := Nat.mul_le_mul_right (2 ^ (52 - L)) hlo
    rw [← Nat.pow_add, show L + (52 - L) = 52 by omega] at this
    rw [hK]; exact this
  have hK2 : K < 9007199254740992 := by
    have := Nat.mul_lt_mul_of_pos_right hhi (Nat.two_pow_pos (52 - L))
    rw [← Nat.pow_add, show L + 1 + (52 - L) = 53 by omega] at this
    rw [hK]; exact this
  have hlast : max ((0 : Int) + (L : Int) - (52 : Nat)) (-1074) = (L : Int) - 52 := by omega
  have hw : Ieee.double.nearest false n 0 = (L + 1022) * 4503599627370496 + K := by
    unfold Ieee.Format.nearest
    rw [if_neg (by omega), d_fb, d_lp, d_bin, d_inf, ← hL]
    simp only [hlast]
    have hc : Ieee.Toward.cut .even false (n <<< ((0 : Int) - ((L : Int) - 52)).toNat) ((L : Int) - 52 - 0).toNat = K := by
      rw [show ((0 : Int) - ((L : Int) - 52)).toNat = 52 - L by omega, show ((L : Int) - 52 - 0).toNat = 0 by omega, Nat.shiftLeft_eq, ← hK]
      unfold Ieee.Toward.cut
      simp [Nat.mod_one]
    rw [hc, show ((L : Int) - 52 - -1074).toNat = L + 1022 by omega]
    unfold Ieee.Format.word
    rw [if_neg (by decide)]
    omega
  rw [hw, ← hK]
  have hlt : (L + 1022) * 4503599627370496 + K < 9218868437227405312 := by omega
  have e1 : ((L + 1022) * 4503599627370496 + K) % 9223372036854775808 = (L + 1022) * 4503599627370496 + K := Nat.mod_eq_of_lt (by omega)
  have e2 : ((L + 1022) * 4503599627370496 + K) / 9223372036854775808 = 0 := Nat.div_eq_of_lt (by omega)
  rw [read_eq, e1, e2, if_neg (by omega), if_pos hlt]
  have e3 : ((L + 1022) * 4503599627370496 + K) % 4503599627370496 = K - 4503599627370496 := by omega
  have e4 : ((L + 1022) * 4503599627370496 + K) / 4503599627370496 = L + 1023 := by omega
  rw [e3, e4]
  have e5 : 4503599627370496 + (K - 4503599627370496) = K := by omega
  have e6 : (-1074 : Int) + ((L + 1023 - 1 : Nat) : Int) = (L : Int) - 52 := by omega
  rw [e5, e6]
  rfl
/-- A positive number below a whole one. -/
theorem fcut_pos {m : Nat} {i : Int} (hi : i < 0) (w : Ieee.Toward) (hw : w = .zero ∨ w = .down) : w.cut false (m <<< i.toNat) (-i).toNat = m / 2 ^ (-i).toNat := by
  obtain ⟨d, hd⟩ : ∃ d, d = (-i).toNat := ⟨_, rfl⟩
  rw [← hd, show i.toNat = 0 by omega, Nat.shiftLeft_zero]
  have key : ∀ more : Bool, more = false → m / (1 <<< min d (m.log2 + 2)) + more.toNat = m / 2 ^ d := by
    intro more hm
    rw [hm]
    show m / (1 <<< min d (m.log2 + 2)) + 0 = _
    rw [Nat.add_zero, Nat.one_shiftLeft]
    by_cases h : d ≤ m.log2 + 2
    · rw [Nat.min_eq_left h]
    · rw [Nat.min_eq_right (by omega)]
      have h1 : m < 2 ^ (m.log2 + 2) := Nat.lt_of_lt_of_le Nat.lt_log2_self (Nat.pow_le_pow_right (by decide) (by omega))
      have h2 : m < 2 ^ d := Nat.lt_of_lt_of_le h1 (Nat.pow_le_pow_right (by decide) (by omega))
      rw [Nat.div_eq_of_lt h1, Nat.div_eq_of_lt h2]
  rcases hw with rfl | rfl
  · exact key _ rfl
  · exact key _ rfl
/-- What is made whole, as a word. -/
def wholeW (way : Ieee.Toward) (x : Nat) : Nat := Ieee.double.write ((Ieee.double.read x).integral way)
theorem whole_same {x : Nat} (h : x < 9218868437227405312) : wholeW .zero x = wholeW .down x := by
  obtain ⟨m, i, hr, _⟩ := read_pos h
  unfold wholeW
  rw [hr]
  show Ieee.double.nearest false (Ieee.Toward.cut .zero false (m <<< i.toNat) (-i).toNat) 0 = Ieee.double.nearest false (Ieee.Toward.cut .down false (m <<< i.toNat) (-i).toNat) 0
  rfl
theorem fsgnd (m k : Nat) : Ieee.signed false m k = ((m * 2 ^ k : Nat) : Int) := by
  unfold Ieee.signed
  rw [if_neg (by decide), Nat.shiftLeft_eq]
/-- Two orders of the same numbers. -/
theorem ord_num {x y m n : Nat} {i j : Int} (hx : Ieee.double.read x = .number false m i) (hy : Ieee.double.read y = .number false n j) : Ieee.double.order x y = some (compare ((m * 2 ^ (i - min i j).toNat : Nat) : Int) ((n * 2 ^ (j - min i j).toNat : Nat) : Int)) := by
  unfold Ieee.Format.order
  rw [hx, hy]
  show some (compare (Ieee.signed false m (i - min i j).toNat) (Ieee.signed false n (j - min i j).toNat)) = _
  rw [fsgnd, fsgnd]
theorem ord_swap {x y m n : Nat} {i j : Int} (hx : Ieee.double.read x = .number false m i) (hy : Ieee.double.read y = .number false n j) : Ieee.double.order y x = some (compare ((n * 2 ^ (j - min i j).toNat : Nat) : Int) ((m * 2 ^ (i - min i j).toNat : Nat) : Int)) := by
  rw [ord_num hy hx, Int.min_comm]
theorem cmp_lt {a b : Int} (h : a < b) : compare a b = .lt := by show compareOfLessAndEq a b = _; unfold compareOfLessAndEq; rw [if_pos h]
theorem cmp_eq {a b : Int} (h : a = b) : compare a b = .eq := by show compareOfLessAndEq a b = _; unfold compareOfLessAndEq; rw [if_neg (by omega), if_pos h]
theorem cmp_gt {a b : Int} (h : b < a) : compare a b = .gt := by show compareOfLessAndEq a b = _; unfold compareOfLessAndEq; rw [if_neg (by omega), if_neg (by omega)]
/-- A number that is made whole is not above itself: below it just if it is not it. -/
theorem trunc_floor {x : Nat} (h : x < 9218868437227405312) {m : Nat} {i : Int} (hr : Ieee.double.read x = .number false m i) (hm : m < 9007199254740992) (hi : i < 0) :
    (Ieee.double.order (wholeW .zero x) x == some .lt) = (Ieee.double.order x (wholeW .down x) != some .eq) := by
  rw [← whole_same h]
  obtain ⟨n, hn⟩ : ∃ n, n = m / 2 ^ (-i).toNat := ⟨_, rfl⟩
  have hnm : n * 2 ^ (-i).toNat ≤ m := by rw [hn]; exact Nat.div_mul_le_self _ _
  have hn53 : n < 9007199254740992 := Nat.lt_of_le_of_lt (by rw [hn]; exact Nat.div_le_self _ _) hm
  have hw : wholeW .zero x = Ieee.double.nearest false n 0 := by
    unfold wholeW
    rw [hr]
    show Ieee.double.nearest false (Ieee.Toward.cut .zero false (m <<< i.toNat) (-i).toNat) 0 = _
    rw [fcut_pos hi .zero (.inl rfl), hn]
  rw [hw]
  have hk : ∃ k j, Ieee.double.read (Ieee.double.nearest false n 0) = .number false k j ∧ k * 2 ^ (j - min j i).toNat ≤ m * 2 ^ (i - min j i).toNat := by
    by_cases h0 : n = 0
    · refine ⟨0, -1074, ?_, by rw [Nat.zero_mul]; exact Nat.zero_le _⟩
      rw [h0]
      rfl
    · obtain ⟨h1, hl⟩ := read_whole (by omega) hn53
      refine ⟨_, _, h1, ?_⟩
      generalize n.log2 = L at hl ⊢
      obtain ⟨b, hb⟩ : ∃ b : Nat, min ((L : Int) - 52) i = -(b : Int) := ⟨(-(min ((L : Int) - 52) i)).toNat, by omega⟩
      rw [hb]
      have e1 : ((L : Int) - 52 - -(b : Int)).toNat = b - (52 - L) := by omega
      have hbL : 52 - L ≤ b := by omega
      obtain ⟨c, hc⟩ : ∃ c : Nat, i = -(c : Int) := ⟨(-i).toNat, by omega⟩
      have hcb : c ≤ b := by omega
      rw [hc] at hnm ⊢
      rw [show (-(-(c : Int))).toNat = c by omega] at hnm
      rw [e1, show (-(c : Int) - -(b : Int)).toNat = b - c by omega, Nat.mul_assoc, ← Nat.pow_add, show 52 - L + (b - (52 - L)) = c + (b - c) by omega, Nat.pow_add, ← Nat.mul_assoc]
      exact Nat.mul_le_mul_right _ hnm
  obtain ⟨k, j, hk1, hk2⟩ := hk
  rw [ord_num hk1 hr, ord_swap hk1 hr]
  generalize k * 2 ^ (j - min j i).toNat = A at hk2 ⊢
  generalize m * 2 ^ (i - min j i).toNat = B at hk2 ⊢
  rcases Nat.lt_or_ge A B with h3 | h3
  · rw [show compare (A : Int) (B : Int) = .lt from cmp_lt (by omega), show compare (B : Int) (A : Int) = .gt from cmp_gt (by omega)]
    rfl
  · rw [show compare (A : Int) (B : Int) = .eq from cmp_eq (by omega), show compare (B : Int) (A : Int) = .eq from cmp_eq (by omega)]
    rfl
/-- Kinds of floats, as both reckon them: wz is the one's way to a whole number, or the other's. -/
def nanB (x : Nat) : Bool := Ieee.double.order x x != some .eq
def infB (x : Nat) : Bool := Ieee.double.order (x % 9223372036854775808) 9218868437227405311 == some .gt
def sgnB (x : Nat) : Bool := decide (9223372036854775808 ≤ x)
def nulB (x : Nat) : Bool := Ieee.double.order x 0 == some .eq
def grtB (x : Nat) : Bool := Ieee.double.order x 4697254411347427328 == some .gt
def trP (x : Nat) : Bool := Ieee.double.order (wholeW .zero x) x == some .lt
def trR (x : Nat) : Bool := Ieee.double.order x (wholeW .down x) != some .eq
def kindF (tr : Bool) (x : Nat) : Nat := if nanB x then 0 else if infB x then 1 else if sgnB x then 2 else if nulB x || tr then 3 else if grtB x then 4 else 5
/-- Is it work? -/
def isWk (x : Nat) : Bool := kindF (trP x) x == 5
theorem rest_of {x : Nat} (h1 : nanB x = false) (h2 : infB x = false) (h3 : sgnB x = false) : x < 9218868437227405312 := by
  have h3' : ¬ 9223372036854775808 ≤ x := of_decide_eq_false h3
  have e1 : x % 9223372036854775808 = x := Nat.mod_eq_of_lt (by omega)
  rcases Nat.lt_trichotomy x 9218868437227405312 with h | h | h
  · exact h
  · exfalso
    unfold infB at h2
    rw [e1, h] at h2
    exact absurd h2 (by decide)
  · exfalso
    unfold nanB Ieee.Format.order at h1
    rw [read_eq, e1, if_neg (by omega), if_neg (by omega), if_neg (by omega)] at h1
    exact absurd h1 (by simp [Ieee.Datum.order])
theorem grt_big {x : Nat} {m : Nat} {i : Int} (hr : Ieee.double.read x = .number false m i) (hi : 0 ≤ i) (hm : 4503599627370496 ≤ m) : grtB x = true := by
  unfold grtB
  have hM : Ieee.double.read 4697254411347427328 = .number false 4503599627370496 (-32) := by decide +kernel
  rw [ord_num hr hM]
  have e : min i (-32) = -32 := by omega
  rw [e]
  have h1 : ((4503599627370496 * 2 ^ ((-32 : Int) - -32).toNat : Nat) : Int) = 4503599627370496 := by decide
  rw [h1]
  have h2 : 2 ≤ 2 ^ (i - -32).toNat := by
    have : 2 ^ 1 ≤ 2 ^ (i - -32).toNat := Nat.pow_le_pow_right (by decide) (by omega)
    omega
  have h3 : 4503599627370496 * 2 ≤ m * 2 ^ (i - -32).toNat := Nat.mul_le_mul hm h2
  rw [cmp_gt (by omega)]
  rfl
/-- What is work is a whole number. -/
theorem wk_int {x : Nat} {tr : Bool} (h : kindF tr x = 5) : ∃ n : Nat, n < 9007199254740992 ∧ (Ieee.double.read x).toInt .zero = some (n : Int) := by
  unfold kindF at h
  cases h1 : nanB x <;> cases h2 : infB x <;> cases h3 : sgnB x <;> cases h5 : grtB x <;> simp [h1, h2, h3, h5] at h
  rotate_left
  · exfalso; split at h <;> omega
  have hx := rest_of h1 h2 h3
  obtain ⟨m, i, hr, hm, _, hb⟩ := read_pos hx
  have hi : i < 0 := by
    rcases Int.lt_or_le i 0 with hi | hi
    · exact hi
    · have := grt_big hr hi (hb hi)
      rw [h5] at this
      cases this
  refine ⟨m / 2 ^ (-i).toNat, Nat.lt_of_le_of_lt (Nat.div_le_self _ _) hm, ?_⟩
  rw [hr]
  show some (Ieee.signed false (Ieee.Toward.cut .zero false (m <<< i.toNat) (-i).toNat) 0) = _
  rw [fcut_pos hi .zero (.inl rfl), fsgnd, Nat.pow_zero, Nat.mul_one]
theorem wk_ord {x : Nat} {tr : Bool} (h : kindF tr x = 5) : Ieee.double.order x x = some .eq := by
  unfold kindF at h
  cases h1 : nanB x
  · unfold nanB at h1
    simpa using h1
  · rw [h1] at h
    cases h
/-- Both say the same of it. -/
theorem wk_same (x : Nat) : (kindF (trP x) x == 5) = (kindF (trR x) x == 5) := by
  unfold kindF
  cases h1 : nanB x
  rotate_left
  · rfl
  cases h2 : infB x
  rotate_left
  · rfl
  cases h3 : sgnB x
  rotate_left
  · rfl
  cases h4 : nulB x
  rotate_left
  · rfl
  have hx := rest_of h1 h2 h3
  obtain ⟨m, i, hr, hm, _, hb⟩ := read_pos hx
  by_cases hi : i < 0
  · have : trP x = trR x := trunc_floor hx hr hm hi
    rw [this]
  · rw [grt_big hr (by omega) (hb (by omega))]
    cases trP x <;> cases trR x <;> rfl
end Go.Sha
end
