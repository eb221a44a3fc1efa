/- Lemmas. -/
import Derived.Laws.Externs
import Derived.Laws.FloatArith
import Derived.Test.YtfoeakgnkfcbjaaGreatDoorPt14
set_option linter.unusedSimpArgs false
set_option linter.unusedVariables false
section
/- floats: the walks of their kinds. -/
namespace Go.Vc
open Go
section
variable {P : Program} {n : Nat} {w0 : World} {S0 : List Nat} {E : Env} {L : Hp} {o : Oper} {t t2 : Nat} {x y : Operand} {a b : Nat}
theorem Val.flss (ho : o.op = .binOp .lss t x y t2 := by exact rfl) (hx : lk E x = some (.float .f64 a) := by exact rfl) (hy : lk E y = some (.float .f64 b) := by exact rfl) : Val P n w0 S0 E L o (.bool (Ieee.double.order a b == some .lt)) := by
  intro ac w hs _
  simp [execOp, ho, hs.eval hx, hs.eval hy, binOp, Op.floatCmp, eqGuard]
  rfl
theorem Val.fgtr (ho : o.op = .binOp .gtr t x y t2 := by exact rfl) (hx : lk E x = some (.float .f64 a) := by exact rfl) (hy : lk E y = some (.float .f64 b) := by exact rfl) : Val P n w0 S0 E L o (.bool (Ieee.double.order a b == some .gt)) := by
  intro ac w hs _
  simp [execOp, ho, hs.eval hx, hs.eval hy, binOp, Op.floatCmp, eqGuard]
  rfl
theorem Val.feql (ho : o.op = .binOp .eql t x y t2 := by exact rfl) (hx : lk E x = some (.float .f64 a) := by exact rfl) (hy : lk E y = some (.float .f64 b) := by exact rfl) : Val P n w0 S0 E L o (.bool (Ieee.double.order a b == some .eq)) := by
  intro ac w hs _
  simp [execOp, ho, hs.eval hx, hs.eval hy, binOp, Op.floatCmp, eqGuard]
  rfl
theorem Val.fneq (ho : o.op = .binOp .neq t x y t2 := by exact rfl) (hx : lk E x = some (.float .f64 a) := by exact rfl) (hy : lk E y = some (.float .f64 b) := by exact rfl) : Val P n w0 S0 E L o (.bool (Ieee.double.order a b != some .eq)) := by
  intro ac w hs _
  simp [execOp, ho, hs.eval hx, hs.eval hy, binOp, Op.floatCmp, eqGuard]
  rfl
/-- A function for which the model stands in. -/
theorem Val.ext {f : FuncId} {fn : Func} {e : Array Value → Sem Value} {xs : List Operand} {ts : Array TypeId} {vs : List Value} {v : Value} (hf : P.funcs[f]? = some fn) (he : Extern.find fn = some e) (hr : ∀ w, (e vs.toArray).run P w = .ok v w) (hn : Extern.findNext fn = none)
    (ho : o.op = .call { callee := .value (.func f), args := xs.toArray, argTypes := ts } := by exact rfl) (hx : lkAll E xs = some vs := by exact rfl) (hnm : (fn.name == "runtime.NumGoroutine") = false := by exact rfl) (hb : fn.body.isNone = true := by exact rfl) : Val P n w0 S0 E L o v := by
  intro ac w hs _
  have hv := hs.evalAll hx
  have h1 := run_callFunc_extern hf hnm hb hn he vs.toArray w
  rw [hr w] at h1
  have h2 : (xs.toArray.map ac.eval) = vs.toArray := by rw [List.map_toArray, hv]
  simp [execOp, ho, resolve, Act.eval, Deferred.ofValue, invoke, h1, hv]
/-- A float that is a whole number, as one. -/
theorem Val.fint {T : List (Nat × TI)} (hT : TabOk P T) {t1 : Nat} {ti ti1 : TI} {z : Int} (h : floatToIntVal .f64 a .i64 = some z) (ho : o.op = .convert t t1 x := by exact rfl) (ht : tiGet T t = some ti := by exact rfl) (ht1 : tiGet T t1 = some ti1 := by exact rfl) (hd : ti1.desc = .int .i64 := by exact rfl) (hx : lk E x = some (.float .f64 a) := by exact rfl) : Val P n w0 S0 E L o (.int .i64 z) := by
  intro ac w hs _
  have hu := (hT _ _ ht).1
  have hu1 := (hT _ _ ht1).1
  rw [hd] at hu1
  have := run_convert_float_int (w := w) t t1 .f64 .i64 a z (by rw [hu]; rfl) hu1 h
  simp [execOp, ho, hs.eval hx, this]
end
end Go.Vc
namespace Go.Proofs.YtfoeakgnkfcbjaaGreatDoor
attribute [local irreducible] Go.Vc.Run Go.Vc.RC Go.Vc.RQ Go.Vc.DR Go.Vc.DOp Go.Vc.Knows Go.Vc.At
set_option maxHeartbeats 400000
set_option maxRecDepth 10000
open Go Go.Vc Go.Sha
theorem xBits : Extern.find Tryz.f33 = some Extern.MathFloatBits.float64bits := by kernel_rfl
theorem nBits : Extern.findNext Tryz.f33 = none := by kernel_rfl
theorem xFrom : Extern.find Tryz.f78 = some Extern.MathFloatBits.float64frombits := by kernel_rfl
theorem nFrom : Extern.findNext Tryz.f78 = none := by kernel_rfl
theorem xTrunc : Extern.find Tryz.f164 = some (Extern.MathFloor.toIntegral "math.archTrunc" .zero) := by kernel_rfl
theorem nTrunc : Extern.findNext Tryz.f164 = none := by kernel_rfl
theorem xFloor : Extern.find Tryz.f140 = some (Extern.MathFloor.toIntegral "math.archFloor" .down) := by kernel_rfl
theorem nFloor : Extern.findNext Tryz.f140 = none := by kernel_rfl
set_option maxRecDepth 10000 in set_option maxHeartbeats 4000000 in
theorem IsNaN_calls (x : Nat) (w : World) : Gives Tryz.prog 62 [.float .f64 x] (.bool (nanB x)) w := by
  refine enter Tryz.func62 rfl (Mem.nil w []) rfl ?_
  refine x_ ?_
  refine Run.a (Val.fneq) ?_
  refine x_ ?_
  exact RQ.ret1 rfl (Res.tmp rfl) fun w' hm => ⟨rfl, hm.fr⟩
theorem absW {x : Nat} (hx : x < 18446744073709551616) : IntKind.u64.wrap ((BitVec.ofInt IntKind.u64.bits (x : Int) &&& ~~~BitVec.ofInt IntKind.u64.bits 9223372036854775808).toNat : Nat) = ((x % 9223372036854775808 : Nat) : Int) := by
  have e : (BitVec.ofInt IntKind.u64.bits (x : Int) &&& ~~~BitVec.ofInt IntKind.u64.bits 9223372036854775808).toNat = x % 9223372036854775808 := by
    have h1 : (BitVec.ofInt IntKind.u64.bits (x : Int)).toNat = x := by
      rw [BitVec.toNat_ofInt]
      show ((x : Int) % 18446744073709551616).toNat = x
      omega
    have h2 : (~~~BitVec.ofInt IntKind.u64.bits 9223372036854775808).toNat = 2 ^ 63 - 1 := by decide
    rw [BitVec.toNat_and, h1, h2, Nat.and_two_pow_sub_one_eq_mod]
  rw [e]
  exact wrap_in (by simp only [inK]; omega)
set_option maxRecDepth 10000 in set_option maxHeartbeats 4000000 in
theorem Abs_calls (x : Nat) (hx : x < 18446744073709551616) (w : World) : Gives Tryz.prog 139 [.float .f64 x] (.float .f64 (x % 9223372036854775808)) w := by
  refine enter Tryz.func139 rfl (Mem.nil w []) rfl ?_
  refine x_ ?_
  refine Run.a (Val.ext (v := .int .u64 (x : Int)) Tryz.func33 xBits (fun w => rfl) nBits) ?_
  refine x_ ?_
  rw [absW hx]
  refine Run.a (Val.ext (v := .float .f64 (x % 9223372036854775808)) Tryz.func78 xFrom (fun w => rfl) nFrom) ?_
  refine x_ ?_
  exact RQ.ret1 rfl (Res.tmp rfl) fun w' hm => ⟨rfl, hm.fr⟩
set_option maxRecDepth 10000 in set_option maxHeartbeats 4000000 in
theorem IsInf_calls (x : Nat) (hx : x < 18446744073709551616) (w : World) : Gives Tryz.prog 92 [.float .f64 x, .int .i64 0] (.bool (infB x)) w := by
  refine enter Tryz.func92 rfl (Mem.nil w []) rfl ?_
  have kA : Knows Tryz.prog w 139 [.float .f64 x] (.float .f64 (x % 9223372036854775808)) := Knows.mk Tryz.func139 (fun w' _ => Abs_calls x hx w')
  refine x_ ?_
  refine Run.a (Val.fgtr) ?_
  refine x_ ?_
  exact RQ.ret1 rfl (Res.tmp rfl) fun w' hm => ⟨rfl, hm.fr⟩
theorem wrapS {x : Nat} (hx : x < 18446744073709551616) : IntKind.i64.wrap (x : Int) = if 9223372036854775808 ≤ x then (x : Int) - 18446744073709551616 else (x : Int) := by
  split
  · have : IntKind.i64.wrap (x : Int) = IntKind.i64.wrap ((x : Int) - 18446744073709551616) := by
      unfold IntKind.wrap
      simp [IntKind.bits, IntKind.signed]
    rw [this]
    exact wrap_in (by simp only [inK]; omega)
  · exact wrap_in (by simp only [inK]; omega)
set_option maxRecDepth 10000 in set_option maxHeartbeats 4000000 in
theorem Signbit_calls (x : Nat) (hx : x < 18446744073709551616) (w : World) : Gives Tryz.prog 93 [.float .f64 x] (.bool (sgnB x)) w := by
  refine enter Tryz.func93 rfl (Mem.nil w []) rfl ?_
  refine x_ ?_
  refine Run.a (Val.ext (v := .int .u64 (x : Int)) Tryz.func33 xBits (fun w => rfl) nBits) ?_
  refine x_ ?_
  refine RQ.ret1 rfl (Res.tmp rfl) fun w' hm => ⟨?_, hm.fr⟩
  rw [show IntKind.i64.wrap (x : Int) = if 9223372036854775808 ≤ x then (x : Int) - 18446744073709551616 else (x : Int) from wrapS hx]
  unfold sgnB
  by_cases h : 9223372036854775808 ≤ x
  · rw [if_pos h, decide_eq_true h, decide_eq_true (show (x : Int) - 18446744073709551616 < 0 by omega)]
  · rw [if_neg h, decide_eq_false h, decide_eq_false (show ¬ (x : Int) < 0 by omega)]
theorem wholeRun {P : Program} {x : Nat} (h : x < 9218868437227405312) (nm : String) (way : Ieee.Toward) (w : World) : (Extern.MathFloor.toIntegral nm way #[.float .f64 x]).run P w = .ok (.float .f64 (wholeW way x)) w := by
  obtain ⟨m, i, hr, _⟩ := read_pos h
  have hd : FloatKind.f64.decode x = .number false m i := hr
  unfold wholeW
  rw [hr]
  have hc : ∃ g : Bool → Nat → Sem Value, Extern.MathFloor.toIntegral nm way #[.float .f64 x] = Extern.MathFloor.toIntegral.match_1 (fun _ => Sem Value) (FloatKind.f64.decode x) g (fun d => pure (Value.float .f64 (FloatKind.f64.encode (d.integral way)))) := ⟨_, rfl⟩
  obtain ⟨g, hg⟩ := hc
  rw [hg, hd]
  rfl
set_option maxRecDepth 10000 in set_option maxHeartbeats 4000000 in
theorem Trunc_calls (x : Nat) (hx : x < 9218868437227405312) (w : World) : Gives Tryz.prog 147 [.float .f64 x] (.float .f64 (wholeW .zero x)) w := by
  refine enter Tryz.func147 rfl (Mem.nil w []) rfl ?_
  refine x_ ?_
  refine Run.a (Val.ext (v := .float .f64 (wholeW .zero x)) Tryz.func164 xTrunc (fun w => wholeRun hx _ _ w) nTrunc) ?_
  refine x_ ?_
  exact RQ.ret1 rfl (Res.tmp rfl) fun w' hm => ⟨rfl, hm.fr⟩
set_option maxRecDepth 10000 in set_option maxHeartbeats 4000000 in
theorem Floor_calls (x : Nat) (hx : x < 9218868437227405312) (w : World) : Gives Tryz.prog 94 [.float .f64 x] (.float .f64 (wholeW .down x)) w := by
  refine enter Tryz.func94 rfl (Mem.nil w []) rfl ?_
  refine x_ ?_
  refine Run.a (Val.ext (v := .float .f64 (wholeW .down x)) Tryz.func140 xFloor (fun w => wholeRun hx _ _ w) nFloor) ?_
  refine x_ ?_
  exact RQ.ret1 rfl (Res.tmp rfl) fun w' hm => ⟨rfl, hm.fr⟩
end Go.Proofs.YtfoeakgnkfcbjaaGreatDoor
end
section
/- floats: Kind, Work. -/
namespace Go.Proofs.YtfoeakgnkfcbjaaGreatDoor
attribute [local irreducible] Go.Vc.Run Go.Vc.RC Go.Vc.RQ Go.Vc.DR Go.Vc.DOp Go.Vc.Knows Go.Vc.At
set_option maxHeartbeats 400000
set_option maxRecDepth 10000
open Go Go.Vc Go.Sha
set_option maxRecDepth 10000 in set_option maxHeartbeats 4000000 in
theorem Kind_calls (x : Nat) (hx : x < 18446744073709551616) (w : World) : Gives Tryz.prog 105 [.float .f64 x] (.int .i64 (kindF (trP x) x : Nat)) w := by
  refine enter Tryz.func105 rfl (Mem.nil w []) rfl ?_
  have kN : Knows Tryz.prog w 62 [.float .f64 x] (.bool (nanB x)) := Knows.mk Tryz.func62 (fun w' _ => IsNaN_calls x w')
  have kI : Knows Tryz.prog w 92 [.float .f64 x, .int .i64 0] (.bool (infB x)) := Knows.mk Tryz.func92 (fun w' _ => IsInf_calls x hx w')
  have kS : Knows Tryz.prog w 93 [.float .f64 x] (.bool (sgnB x)) := Knows.mk Tryz.func93 (fun w' _ => Signbit_calls x hx w')
  obtain ⟨k, hk⟩ : ∃ k, k = kindF (trP x) x := ⟨_, rfl⟩
  rw [← hk]
  unfold kindF at hk
  cases h1 : nanB x
  rotate_left
  · rw [h1] at kN hk
    obtain rfl : k = 0 := hk
    refine x_ ?_
    exact RQ.ret1 rfl (Res.tmp rfl) fun w' hm => ⟨rfl, hm.fr⟩
  rw [h1] at kN hk
  cases h2 : infB x
  rotate_left
  · rw [h2] at kI hk
    obtain rfl : k = 1 := hk
    refine x_ ?_
    exact RQ.ret1 rfl (Res.tmp rfl) fun w' hm => ⟨rfl, hm.fr⟩
  rw [h2] at kI hk
  cases h3 : sgnB x
  rotate_left
  · rw [h3] at kS hk
    obtain rfl : k = 2 := hk
    refine x_ ?_
    exact RQ.ret1 rfl (Res.tmp rfl) fun w' hm => ⟨rfl, hm.fr⟩
  rw [h3] at kS hk
  have hx' := rest_of h1 h2 h3
  have kT : Knows Tryz.prog w 147 [.float .f64 x] (.float .f64 (wholeW .zero x)) := Knows.mk Tryz.func147 (fun w' _ => Trunc_calls x hx' w')
  refine x_ ?_
  refine Run.a (Val.feql) ?_
  cases h4 : nulB x
  rotate_left
  · rw [show (Ieee.double.order x 0 == some .eq) = true from h4]
    rw [h4] at hk
    obtain rfl : k = 3 := hk
    refine x_ ?_
    exact RQ.ret1 rfl (Res.tmp rfl) fun w' hm => ⟨rfl, hm.fr⟩
  rw [show (Ieee.double.order x 0 == some .eq) = false from h4]
  rw [h4] at hk
  refine x_ ?_
  refine Run.a Val.flss ?_
  cases h5 : trP x
  rotate_left
  · rw [show (Ieee.double.order (wholeW .zero x) x == some .lt) = true from h5]
    rw [h5] at hk
    obtain rfl : k = 3 := hk
    refine x_ ?_
    exact RQ.ret1 rfl (Res.tmp rfl) fun w' hm => ⟨rfl, hm.fr⟩
  rw [show (Ieee.double.order (wholeW .zero x) x == some .lt) = false from h5]
  rw [h5] at hk
  refine x_ ?_
  refine Run.a (Val.fgtr) ?_
  cases h6 : grtB x
  rotate_left
  · rw [show (Ieee.double.order x 4697254411347427328 == some .gt) = true from h6]
    rw [h6] at hk
    obtain rfl : k = 4 := hk
    refine x_ ?_
    exact RQ.ret1 rfl (Res.tmp rfl) fun w' hm => ⟨rfl, hm.fr⟩
  rw [show (Ieee.double.order x 4697254411347427328 == some .gt) = false from h6]
  rw [h6] at hk
  obtain rfl : k = 5 := hk
  refine x_ ?_
  exact RQ.ret1 rfl (Res.tmp rfl) fun w' hm => ⟨rfl, hm.fr⟩
set_option maxRecDepth 10000 in set_option maxHeartbeats 4000000 in
theorem RKind_calls (x : Nat) (hx : x < 18446744073709551616) (w : World) : Gives Tryz.prog 54 [.float .f64 x] (.int .i64 (kindF (trR x) x : Nat)) w := by
  refine enter Tryz.func54 rfl (Mem.nil w []) rfl ?_
  have kI : Knows Tryz.prog w 92 [.float .f64 x, .int .i64 0] (.bool (infB x)) := Knows.mk Tryz.func92 (fun w' _ => IsInf_calls x hx w')
  have kS : Knows Tryz.prog w 93 [.float .f64 x] (.bool (sgnB x)) := Knows.mk Tryz.func93 (fun w' _ => Signbit_calls x hx w')
  obtain ⟨k, hk⟩ : ∃ k, k = kindF (trR x) x := ⟨_, rfl⟩
  rw [← hk]
  unfold kindF at hk
  refine x_ ?_
  refine Run.a (Val.fneq) ?_
  cases h1 : nanB x
  rotate_left
  · rw [h1] at hk
    rw [show (Ieee.double.order x x != some .eq) = true from h1]
    obtain rfl : k = 0 := hk
    refine x_ ?_
    exact RQ.ret1 rfl (Res.tmp rfl) fun w' hm => ⟨rfl, hm.fr⟩
  rw [h1] at hk
  rw [show (Ieee.double.order x x != some .eq) = false from h1]
  cases h2 : infB x
  rotate_left
  · rw [h2] at kI hk
    obtain rfl : k = 1 := hk
    refine x_ ?_
    exact RQ.ret1 rfl (Res.tmp rfl) fun w' hm => ⟨rfl, hm.fr⟩
  rw [h2] at kI hk
  cases h3 : sgnB x
  rotate_left
  · rw [h3] at kS hk
    obtain rfl : k = 2 := hk
    refine x_ ?_
    exact RQ.ret1 rfl (Res.tmp rfl) fun w' hm => ⟨rfl, hm.fr⟩
  rw [h3] at kS hk
  have hx' := rest_of h1 h2 h3
  have kT : Knows Tryz.prog w 94 [.float .f64 x] (.float .f64 (wholeW .down x)) := Knows.mk Tryz.func94 (fun w' _ => Floor_calls x hx' w')
  refine x_ ?_
  refine Run.a (Val.feql) ?_
  cases h4 : nulB x
  rotate_left
  · rw [show (Ieee.double.order x 0 == some .eq) = true from h4]
    rw [h4] at hk
    obtain rfl : k = 3 := hk
    refine x_ ?_
    exact RQ.ret1 rfl (Res.tmp rfl) fun w' hm => ⟨rfl, hm.fr⟩
  rw [show (Ieee.double.order x 0 == some .eq) = false from h4]
  rw [h4] at hk
  refine x_ ?_
  refine Run.a Val.fneq ?_
  cases h5 : trR x
  rotate_left
  · rw [show (Ieee.double.order x (wholeW .down x) != some .eq) = true from h5]
    rw [h5] at hk
    obtain rfl : k = 3 := hk
    refine x_ ?_
    exact RQ.ret1 rfl (Res.tmp rfl) fun w' hm => ⟨rfl, hm.fr⟩
  rw [show (Ieee.double.order x (wholeW .down x) != some .eq) = false from h5]
  rw [h5] at hk
  refine x_ ?_
  refine Run.a (Val.fgtr) ?_
  cases h6 : grtB x
  rotate_left
  · rw [show (Ieee.double.order x 4697254411347427328 == some .gt) = true from h6]
    rw [h6] at hk
    obtain rfl : k = 4 := hk
    refine x_ ?_
    exact RQ.ret1 rfl (Res.tmp rfl) fun w' hm => ⟨rfl, hm.fr⟩
  rw [show (Ieee.double.order x 4697254411347427328 == some .gt) = false from h6]
  rw [h6] at hk
  obtain rfl : k = 5 := hk
  refine x_ ?_
  exact RQ.ret1 rfl (Res.tmp rfl) fun w' hm => ⟨rfl, hm.fr⟩
end Go.Proofs.YtfoeakgnkfcbjaaGreatDoor
end
section
/- floats: Work, Bits, Of. -/
namespace Go.Proofs.YtfoeakgnkfcbjaaGreatDoor
open Go Go.Vc Go.Sha
/-- What Work tells. -/
noncomputable def wkN (x : Nat) : Int := if isWk x = true then ((Ieee.double.read x).toInt .zero).getD 0 else 0
def bitsF (x : Nat) : List Nat := le (if nanB x = true then 9221120237041090561 else x) 8
theorem bits_len (x : Nat) : (bitsF x).length = 8 := le_len _ _
theorem bits_lt (x : Nat) : ∀ y ∈ bitsF x, y < 256 := le_lt _ _
/-- The bytes that are there after k steps. -/
def rowL (u k : Nat) : List Nat := (le u 8).take k ++ List.replicate (8 - k) 0
theorem rowL_len (u : Nat) {k : Nat} (hk : k ≤ 8) : (rowL u k).length = 8 := by
  unfold rowL
  rw [List.length_append, List.length_take, le_len, List.length_replicate, Nat.min_eq_left hk]
  omega
theorem le_at (u : Nat) : ∀ (n k : Nat), k < n → (le u n)[k]? = some (u / 2 ^ (8 * k) % 256) := by
  intro n
  induction n generalizing u with
  | zero => intro k h; omega
  | succ n ih =>
    intro k h
    rw [le_consT]
    cases k with
    | zero => rw [Nat.mul_zero, Nat.pow_zero, Nat.div_one]; rfl
    | succ k =>
      rw [List.getElem?_cons_succ, ih (u / 256) k (by omega), Nat.div_div_eq_div_mul, show 256 * 2 ^ (8 * k) = 2 ^ (8 * (k + 1)) from by rw [Nat.mul_succ, Nat.pow_add, Nat.mul_comm]]
theorem rowL_set (u : Nat) {k : Nat} (hk : k < 8) : (rowL u k).set k (u / 2 ^ (8 * k) % 256) = rowL u (k + 1) := by
  have h := le_at u 8 k hk
  have hl : (le u 8).length = 8 := le_len _ _
  unfold rowL
  rw [List.set_append, if_neg (by rw [List.length_take]; omega), List.length_take, hl, Nat.min_eq_left (by omega), Nat.sub_self, show 8 - k = (8 - (k + 1)) + 1 by omega, List.replicate_succ, List.set_cons_zero, List.take_add_one, h]
  simp
theorem isWk_R (x : Nat) : (kindF (trR x) x == 5) = isWk x := (wk_same x).symm
attribute [local irreducible] Go.Vc.Run Go.Vc.RC Go.Vc.RQ Go.Vc.DR Go.Vc.DOp Go.Vc.Knows Go.Vc.At
set_option maxHeartbeats 400000
set_option maxRecDepth 10000
open Go Go.Vc Go.Sha
theorem wk_val {x : Nat} {tr : Bool} (h : kindF tr x = 5) : floatToIntVal .f64 x .i64 = some (((Ieee.double.read x).toInt .zero).getD 0) := by
  obtain ⟨n, hn, he⟩ := wk_int h
  unfold floatToIntVal
  rw [show (FloatKind.f64.decode x).toInt .zero = some (n : Int) from he, he]
  have h1 : IntKind.i64.min ≤ (n : Int) ∧ (n : Int) ≤ IntKind.i64.max := by
    show (-9223372036854775808 : Int) ≤ (n : Int) ∧ (n : Int) ≤ 9223372036854775807
    omega
  exact if_pos h1
set_option maxRecDepth 10000 in set_option maxHeartbeats 4000000 in
theorem Work_calls (x : Nat) (hx : x < 18446744073709551616) (w : World) : Gives Tryz.prog 67 [.float .f64 x] (.tuple #[.int .i64 (wkN x), .bool (isWk x)]) w := by
  refine enter Tryz.func67 rfl (Mem.nil w []) rfl ?_
  have kK : Knows Tryz.prog w 105 [.float .f64 x] (.int .i64 (kindF (trP x) x : Nat)) := Knows.mk Tryz.func105 (fun w' _ => Kind_calls x hx w')
  by_cases h : kindF (trP x) x = 5
  · have hi : isWk x = true := by unfold isWk; rw [h]; rfl
    have hv := wk_val h
    rw [h] at kK
    unfold wkN
    rw [hi, if_pos rfl]
    generalize ((Ieee.double.read x).toInt .zero).getD 0 = z at hv ⊢
    refine x_ ?_
    refine Run.a (Val.fint tabOk hv) ?_
    refine x_ ?_
    exact RQ.ret2 rfl (Res.tmp rfl) (Res.tmp rfl) fun w' hm => ⟨rfl, hm.fr⟩
  · have hi : isWk x = false := by unfold isWk; exact beq_eq_false_iff_ne.2 h
    unfold wkN
    rw [hi, if_neg (by decide)]
    generalize kindF (trP x) x = k at h kK
    have hk : (k : Int) ≠ 5 := by omega
    refine x_ ?_
    exact RQ.ret2 rfl (Res.tmp rfl) (Res.tmp rfl) fun w' hm => ⟨rfl, hm.fr⟩
set_option maxRecDepth 10000 in set_option maxHeartbeats 4000000 in
theorem RWork_calls (x : Nat) (hx : x < 18446744073709551616) (w : World) : Gives Tryz.prog 25 [.float .f64 x] (.tuple #[.int .i64 (wkN x), .bool (isWk x)]) w := by
  refine enter Tryz.func25 rfl (Mem.nil w []) rfl ?_
  have kK : Knows Tryz.prog w 54 [.float .f64 x] (.int .i64 (kindF (trR x) x : Nat)) := Knows.mk Tryz.func54 (fun w' _ => RKind_calls x hx w')
  by_cases h : kindF (trR x) x = 5
  · have hi : isWk x = true := by rw [← isWk_R, h]; rfl
    have hv := wk_val h
    rw [h] at kK
    unfold wkN
    rw [hi, if_pos rfl]
    generalize ((Ieee.double.read x).toInt .zero).getD 0 = z at hv ⊢
    refine x_ ?_
    refine Run.a (Val.fint tabOk hv) ?_
    refine x_ ?_
    exact RQ.ret2 rfl (Res.tmp rfl) (Res.tmp rfl) fun w' hm => ⟨rfl, hm.fr⟩
  · have hi : isWk x = false := by rw [← isWk_R]; exact beq_eq_false_iff_ne.2 h
    unfold wkN
    rw [hi, if_neg (by decide)]
    generalize kindF (trR x) x = k at h kK
    have hk : (k : Int) ≠ 5 := by omega
    refine x_ ?_
    exact RQ.ret2 rfl (Res.tmp rfl) (Res.tmp rfl) fun w' hm => ⟨rfl, hm.fr⟩
theorem shiftV {u k : Nat} (hu : u < 18446744073709551616) (hk : k < 8) : IntKind.u8.wrap (Int.fdiv (u : Int) (2 ^ min (8 * (k : Int)).toNat IntKind.u64.bits)) = ((u / 2 ^ (8 * k) % 256 : Nat) : Int) := by
  rw [show min (8 * (k : Int)).toNat IntKind.u64.bits = 8 * k from by show min (8 * (k : Int)).toNat 64 = 8 * k; omega, Int.fdiv_eq_ediv_of_nonneg _ (Int.le_of_lt (Int.pow_pos (by decide)))]
  rw [show (u : Int) / 2 ^ (8 * k) = ((u / 2 ^ (8 * k) : Nat) : Int) from by rw [Int.natCast_ediv, Int.natCast_pow]; rfl]
  rw [wrap_u8]
  rfl
set_option maxRecDepth 10000 in set_option maxHeartbeats 4000000 in
theorem Bits_calls (x : Nat) (hx : x < 18446744073709551616) (w : World) : Gives Tryz.prog 31 [.float .f64 x] (.agg (u8s (bitsF x)).toArray) w := by
  refine enter Tryz.func31 rfl (Mem.nil w []) rfl ?_
  have kN : Knows Tryz.prog w 62 [.float .f64 x] (.bool (nanB x)) := Knows.mk Tryz.func62 (fun w' _ => IsNaN_calls x w')
  unfold bitsF
  obtain ⟨u, hu⟩ : ∃ u, u = if nanB x = true then 9221120237041090561 else x := ⟨_, rfl⟩
  rw [← hu]
  have hu64 : u < 18446744073709551616 := by rw [hu]; split <;> omega
  refine x_ ?_
  refine Run.nw nal ?_
  intro b2
  refine x_ ?_
  refine Run.a (Val.ext (v := .int .u64 (x : Int)) Tryz.func33 xBits (fun w => rfl) nBits) ?_
  refine Run.a (Val.of rfl) ?_
  refine Run.nil (RQ.next ?_)
  refine RC.seq ?_
  refine RC.thenCut (Y := Unit) (fun _ => [(3, .int .u64 (u : Int)), (2, .pointer (some ⟨b2, 0, none⟩))]) (fun _ => [(b2, Obj.cells ti22.zero.cells 22 (0, 0))]) ?_ (fun _ => ?_)
  · cases h : nanB x
    · rw [h] at kN hu
      rw [if_neg (by decide)] at hu
      subst hu
      refine x_ ?_
      exact RQ.toP () ⟨rfl, rfl, trivial⟩ (List.Perm.refl _) (List.Sublist.refl _)
    · rw [h] at kN hu
      rw [if_pos rfl] at hu
      subst hu
      refine x_ ?_
      exact RQ.toP () ⟨rfl, rfl, trivial⟩ (List.Perm.refl _) (List.Sublist.refl _)
  refine x_ ?_
  refine Run.nw nal ?_
  intro b4
  refine x_ ?_
  refine RC.up 8 (D := Unit) (fun _ _ => True) (fun k _ => [(10, .int .i64 k), (4, .pointer (some ⟨b4, 0, none⟩)), (3, .int .u64 (u : Int)), (2, .pointer (some ⟨b2, 0, none⟩))]) (fun k _ => [(b4, Obj.cells (u8s (rowL u k)).toArray 22 (0, 0)), (b2, Obj.cells ti22.zero.cells 22 (0, 0))]) 0 () (by decide) trivial ⟨rfl, rfl, rfl, rfl, trivial⟩ (List.Sublist.refl _) ?_
  intro k _ hk _
  have hl8 := rowL_len u hk
  by_cases hk' : k < 8
  · refine x_ ?_
    rw [shiftV hu64 hk']
    refine Run.a (via (j := k) k (ha := by show 0 + k * 1 = k; omega)) ?_
    refine Run.op1 (ost (ti := ti5) (off := k) (v := .int .u8 ((u / 2 ^ (8 * k) % 256 : Nat) : Int)) (arr := (u8s (rowL u k)).toArray) (e := 22) (L' := [(b2, Obj.cells ti22.zero.cells 22 (0, 0))]) (u8s (rowL u (k + 1))).toArray (by rw [← rowL_set u hk']; exact u8s_set _ _ _ (by rw [hl8]; exact hk')) (by rw [List.size_toArray, u8s_len, hl8]; show k + 1 ≤ 8; omega) (fun z hz => by rw [List.mem_singleton.1 (show z ∈ [Value.int .u8 _] from hz)]; rfl)) (fun _ => ?_)
    refine x_ ?_
    exact RQ.up (k + 1) () (Nat.lt_succ_self _) hk' trivial ⟨rfl, rfl, rfl, rfl, trivial⟩ (List.Sublist.refl _)
  · obtain rfl : k = 8 := by omega
    rw [show rowL u 8 = le u 8 from by unfold rowL; rw [List.take_of_length_le (by rw [le_len]; exact Nat.le_refl 8)]; exact List.append_nil _] at hl8 ⊢
    refine x_ ?_
    refine Run.op1 (osa (arr := ti22.zero.cells) (e := 22) (L' := [(b4, Obj.cells (u8s (le u 8)).toArray 22 (0, 0))]) (u8s (le u 8)).toArray (u8s_one _) (hL := (perm_of fun f => by (simp only [List.map_append, List.map_cons, List.map_nil, List.sum_append, List.sum_cons, List.sum_nil] <;> omega))) (hs := by rw [List.size_toArray, u8s_len, hl8]; rfl)) (fun _ => ?_)
    refine x_ ?_
    exact RQ.ret1 rfl (Res.cellAll tabOk rfl rfl rfl m0 rfl) fun w' hm => ⟨rfl, hm.fr⟩
set_option maxRecDepth 10000 in set_option maxHeartbeats 4000000 in
theorem RBits_calls (x : Nat) (hx : x < 18446744073709551616) (w : World) : Gives Tryz.prog 12 [.float .f64 x] (.agg (u8s (bitsF x)).toArray) w := by
  refine enter Tryz.func12 rfl (Mem.nil w []) rfl ?_
  unfold bitsF
  obtain ⟨u, hu⟩ : ∃ u, u = if nanB x = true then 9221120237041090561 else x := ⟨_, rfl⟩
  rw [← hu]
  have hu64 : u < 18446744073709551616 := by rw [hu]; split <;> omega
  refine x_ ?_
  refine Run.nw nal ?_
  intro b2
  refine x_ ?_
  refine Run.a (Val.ext (v := .int .u64 (x : Int)) Tryz.func33 xBits (fun w => rfl) nBits) ?_
  refine Run.a (Val.of rfl) ?_
  refine Run.nil (RQ.next ?_)
  refine RC.seq ?_
  refine RC.thenCut (Y := Unit) (fun _ => [(3, .int .u64 (u : Int)), (2, .pointer (some ⟨b2, 0, none⟩))]) (fun _ => [(b2, Obj.cells ti22.zero.cells 22 (0, 0))]) ?_ (fun _ => ?_)
  · refine x_ ?_
    refine Run.a (Val.fneq) ?_
    cases h : nanB x
    · rw [h, if_neg (by decide)] at hu
      rw [show (Ieee.double.order x x != some .eq) = false from h]
      subst hu
      refine x_ ?_
      exact RQ.toP () ⟨rfl, rfl, trivial⟩ (List.Perm.refl _) (List.Sublist.refl _)
    · rw [h, if_pos rfl] at hu
      rw [show (Ieee.double.order x x != some .eq) = true from h]
      subst hu
      refine x_ ?_
      exact RQ.toP () ⟨rfl, rfl, trivial⟩ (List.Perm.refl _) (List.Sublist.refl _)
  refine x_ ?_
  refine Run.nw nal ?_
  intro b4
  refine x_ ?_
  refine RC.up 8 (D := Unit) (fun _ _ => True) (fun k _ => [(5, .int .i64 k), (4, .pointer (some ⟨b4, 0, none⟩)), (3, .int .u64 (u : Int)), (2, .pointer (some ⟨b2, 0, none⟩))]) (fun k _ => [(b4, Obj.cells (u8s (rowL u k)).toArray 22 (0, 0)), (b2, Obj.cells ti22.zero.cells 22 (0, 0))]) 0 () (by decide) trivial ⟨rfl, rfl, rfl, rfl, trivial⟩ (List.Sublist.refl _) ?_
  intro k _ hk _
  have hl8 := rowL_len u hk
  by_cases hk' : k < 8
  · refine x_ ?_
    rw [shiftV hu64 hk']
    refine Run.a (via (j := k) k (ha := by show 0 + k * 1 = k; omega)) ?_
    refine Run.op1 (ost (ti := ti5) (off := k) (v := .int .u8 ((u / 2 ^ (8 * k) % 256 : Nat) : Int)) (arr := (u8s (rowL u k)).toArray) (e := 22) (L' := [(b2, Obj.cells ti22.zero.cells 22 (0, 0))]) (u8s (rowL u (k + 1))).toArray (by rw [← rowL_set u hk']; exact u8s_set _ _ _ (by rw [hl8]; exact hk')) (by rw [List.size_toArray, u8s_len, hl8]; show k + 1 ≤ 8; omega) (fun z hz => by rw [List.mem_singleton.1 (show z ∈ [Value.int .u8 _] from hz)]; rfl)) (fun _ => ?_)
    refine x_ ?_
    exact RQ.up (k + 1) () (Nat.lt_succ_self _) hk' trivial ⟨rfl, rfl, rfl, rfl, trivial⟩ (List.Sublist.refl _)
  · obtain rfl : k = 8 := by omega
    rw [show rowL u 8 = le u 8 from by unfold rowL; rw [List.take_of_length_le (by rw [le_len]; exact Nat.le_refl 8)]; exact List.append_nil _] at hl8 ⊢
    refine x_ ?_
    refine Run.op1 (osa (arr := ti22.zero.cells) (e := 22) (L' := [(b4, Obj.cells (u8s (le u 8)).toArray 22 (0, 0))]) (u8s (le u 8)).toArray (u8s_one _) (hL := (perm_of fun f => by (simp only [List.map_append, List.map_cons, List.map_nil, List.sum_append, List.sum_cons, List.sum_nil] <;> omega))) (hs := by rw [List.size_toArray, u8s_len, hl8]; rfl)) (fun _ => ?_)
    refine x_ ?_
    exact RQ.ret1 rfl (Res.cellAll tabOk rfl rfl rfl m0 rfl) fun w' hm => ⟨rfl, hm.fr⟩
end Go.Proofs.YtfoeakgnkfcbjaaGreatDoor
end
