/- Bytes: rows of them, strings, what compares them. -/
import Derived.Test.YtilfbomjaflbjaaDoorVcI
import Derived.Test.YtilfbomjaflbjaaDoorBytes0
import Derived.Laws.Externs
import Derived.Laws.BytesArg
import Derived.ChangeKeysEq
import Derived.Laws.Small
namespace Go.Vc
open Go Go.Sha

/-- These bytes, as a string. -/
def bs (l : List Nat) : ByteArray := ⟨(l.map fun n => n.toUInt8).toArray⟩
theorem bs_size (l : List Nat) : (bs l).size = l.length := by simp [bs, ByteArray.size]
theorem bs_get (l : List Nat) (i : Nat) (h : i < l.length) : (bs l)[i]! = (l[i]'h).toUInt8 := by
  have hi : i < (bs l).size := by rw [bs_size]; exact h
  rw [getElem!_pos (bs l) i hi]
  show (bs l).data[i] = _
  simp [bs]
theorem bs_app (a b : List Nat) : bs a ++ bs b = bs (a ++ b) := by
  apply ByteArray.ext
  rw [ByteArray.data_append]
  simp [bs]
theorem toUInt8_inj {a b : Nat} (ha : a < 256) (hb : b < 256) (h : a.toUInt8 = b.toUInt8) : a = b := by
  have := congrArg UInt8.toNat h
  simpa [Nat.toUInt8, UInt8.toNat_ofNat', Nat.mod_eq_of_lt ha, Nat.mod_eq_of_lt hb] using this
theorem toUInt8_toNat {a : Nat} (ha : a < 256) : a.toUInt8.toNat = a := by simp [Nat.toUInt8, Nat.mod_eq_of_lt ha]
theorem bs_inj {a b : List Nat} (ha : ∀ x ∈ a, x < 256) (hb : ∀ x ∈ b, x < 256) (h : bs a = bs b) : a = b := by
  have h2 : a.map (fun n => n.toUInt8) = b.map fun n => n.toUInt8 := by
    have := congrArg (fun x => x.data.toList) h
    simpa [bs] using this
  clear h
  induction a generalizing b with
  | nil => cases b with
    | nil => rfl
    | cons y b => cases h2
  | cons x a ih => cases b with
    | nil => cases h2
    | cons y b =>
      simp only [List.map_cons, List.cons.injEq] at h2
      rw [toUInt8_inj (ha x (by simp)) (hb y (by simp)) h2.1, ih (fun z hz => ha z (by simp [hz])) (fun z hz => hb z (by simp [hz])) h2.2]
/-- Every string is some bytes. -/
theorem bs_of (s : ByteArray) : ∃ l : List Nat, s = bs l ∧ ∀ x ∈ l, x < 256 := by
  refine ⟨s.data.toList.map UInt8.toNat, ?_, ?_⟩
  · apply ByteArray.ext
    have : ((fun n => UInt8.ofNat n) ∘ UInt8.toNat) = id := by funext x; simp
    simp [bs, this]
  · intro x hx
    simp only [List.mem_map] at hx
    obtain ⟨y, _, rfl⟩ := hx
    exact y.toNat_lt

theorem run_loadBytes {P : Program} {w : World} : ∀ (l pre : List Nat) (a : Addr), (∀ j u, (u8s l)[j]? = some u → w.cell? (a.add j) = some u) →
    (Extern.Bytes.loadBytes a l.length (bs pre)).run P w = .ok (bs (pre ++ l)) w
  | [], pre, a, _ => by simp [Extern.Bytes.loadBytes]
  | x :: l, pre, a, h => by
    have h0 : w.cell? a = some (.int .u8 x) := by
      have := h 0 (.int .u8 x) rfl
      rwa [Addr.add_zero'] at this
    have ih := run_loadBytes (P := P) (w := w) l (pre ++ [x]) (a.add 1) (fun j u hj => by
      rw [add_add, Nat.add_comm]
      exact h (j + 1) u (by simpa [u8s] using hj))
    have hp : (bs pre).push x.toUInt8 = bs (pre ++ [x]) := by
      apply ByteArray.ext
      simp [bs, ByteArray.push]
    rw [List.append_assoc] at ih
    simp only [List.length_cons, Extern.Bytes.loadBytes, Sem.run_bind, run_load, h0, Result.andThen_ok, Int.toNat_natCast, hp]
    exact ih

theorem run_bytesOf {P : Program} {w : World} {v : Value} {n : Nat} {l : List Nat} (h : SrcW w 1 v n (u8s l)) : (Extern.Bytes.bytesOf v).run P w = .ok (bs l) w := by
  have hl : l.length = n := by have := h.len; rw [u8s_len, Nat.mul_one] at this; exact this
  generalize hcs : u8s l = cs at h
  cases h with
  | nil =>
    have : l = [] := by cases l with
      | nil => rfl
      | cons => cases hcs
    subst this
    rfl
  | «at» a m c cs hl' hm hr =>
    subst hcs
    subst hl
    have := run_loadBytes (P := P) (w := w) l [] a hr
    exact this

/-- Arrays of bytes, one by one. -/
theorem run_eqItems_u8 {P : Program} (d : Nat) {e : TypeId} (he : P.plainKey e = true) (hu : P.underlying e = some (.int .u8)) (hc : P.cellsOf e = 1) (a b : List Nat) (w : World) (hl : a.length = b.length) :
    ∀ is : List Nat, (∀ i ∈ is, i < a.length) → ∃ r : Bool, (Op.eqItems (d + 1) e (P.cellsOf e) (u8s a).toArray (u8s b).toArray is).run P w = .ok r w ∧ (r = true ↔ ∀ i ∈ is, a[i]? = b[i]?)
  | [], _ => ⟨true, by simp [Op.eqItems], by simp⟩
  | i :: is, h => by
    have hi := h i (by simp)
    obtain ⟨r, hr, hiff⟩ := run_eqItems_u8 d he hu hc a b w hl is (fun j hj => h j (by simp [hj]))
    have g1 : (u8s a).toArray[i * P.cellsOf e]? = some (.int .u8 (a[i]'hi)) := by simp [u8s, hc, hi]
    have g2 : (u8s b).toArray[i * P.cellsOf e]? = some (.int .u8 (b[i]'(hl ▸ hi))) := by simp [u8s, hc, hl ▸ hi]
    have e1 : (Op.equalIn (d + 1) e (.int .u8 (a[i]'hi)) (.int .u8 (b[i]'(hl ▸ hi)))).run P w = .ok ((a[i]'hi : Int) == (b[i]'(hl ▸ hi) : Int)) w := by
      simp [Op.equalIn, run_underlying hu]
    simp only [Op.eqItems, Sem.run_bind, run_part_plain w he g1, run_part_plain w he g2, e1, Result.andThen_ok]
    have hab : ((a[i]'hi : Int) == (b[i]'(hl ▸ hi) : Int)) = true ↔ a[i]? = b[i]? := by
      rw [List.getElem?_eq_getElem hi, List.getElem?_eq_getElem (hl ▸ hi)]
      simp
      omega
    cases hq : ((a[i]'hi : Int) == (b[i]'(hl ▸ hi) : Int)) with
    | false =>
      refine ⟨false, by simp, ?_⟩
      rw [hq] at hab
      simp at hab
      simp
      intro h1
      exact absurd h1 hab
    | true =>
      refine ⟨r, by simpa using hr, ?_⟩
      rw [hiff]
      simp [hab.1 hq]

section
variable {P : Program} {n : Nat} {w0 : World} {S0 : List Nat} {Q : Exit → Act → World → Prop} {E : Env} {L : Hp} {o : Oper} {d : Nat} {T : List (Nat × TI)} {t : Nat} {ti : TI} {ops : Array Oper} {l rest : List Oper}

theorem run_equal_u8s {e len : Nat} {i : TypeInfo} (hu : P.underlying t = some (.array len e)) (hi : P.info? e = some i) (hk : P.underlying e = some (.int .u8)) (hc : P.cellsOf e = 1) (a b : List Nat) (ha : a.length = len) (hb : b.length = len) (w : World) :
    (Op.equal t (.agg (u8s a).toArray) (.agg (u8s b).toArray)).run P w = .ok (decide (a = b)) w := by
  have hp : P.plainKey e = true := by simp [Program.plainKey, hk]
  obtain ⟨r, hr, hiff⟩ := run_eqItems_u8 (P := P) 9998 hp hk hc a b w (ha.trans hb.symm) (List.range len) (fun i hi => by rw [ha]; exact List.mem_range.1 hi)
  have h := run_equalIn_array w 9999 (u8s a).toArray (u8s b).toArray hu hi
  have e1 : r = decide (a = b) := by
    rw [Bool.eq_iff_iff, hiff, decide_eq_true_iff]
    constructor
    · intro h
      apply List.ext_getElem?
      intro i
      by_cases hi : i < len
      · exact h i (List.mem_range.2 hi)
      · rw [List.getElem?_eq_none (by omega), List.getElem?_eq_none (by omega)]
    · rintro rfl
      simp
  show (Op.equalIn 10000 t _ _).run P w = _
  rw [h, hr, e1]

theorem eqGuard_agg {op : BinOp} (hq : P.eqGuardType P.depth t = false) (x y : Operand) (a b : Array Value) (w : World) :
    (eqGuard op t x y (.agg a) (.agg b)).run P w = .ok () w := by
  unfold eqGuard
  cases op <;> simp [hq]

/-- Arrays of bytes: whether they are the same. -/
theorem Val.eqArr (hT : TabOk P T) {x y : Operand} {len e t2 : Nat} {a b : List Nat} {ei : TI} (ho : o.op = .binOp .eql t x y t2) (ht : tiGet T t = some ti) (hd : ti.desc = .array len e) (he : tiGet T e = some ei) (hed : ei.desc = .int .u8)
    (hq : P.eqGuardType P.depth t = false) (hi : (P.info? e).isSome = true) (hc : P.cellsOf e = 1) (hx : lk E x = some (.agg (u8s a).toArray)) (hy : lk E y = some (.agg (u8s b).toArray)) (ha : a.length = len) (hb : b.length = len) :
    Val P n w0 S0 E L o (.bool (decide (a = b))) := by
  intro ac w hs _
  have hu := (hT _ _ ht).1
  rw [hd] at hu
  have hk := (hT _ _ he).1
  rw [hed] at hk
  obtain ⟨i, hi⟩ := Option.isSome_iff_exists.1 hi
  simp [execOp, ho, hs.eval hx, hs.eval hy, binOp, run_equal_u8s hu hi hk hc a b ha hb, eqGuard_agg hq]

theorem Val.eqBool (hT : TabOk P T) {x y : Operand} {t2 : Nat} {a b : Bool} (ho : o.op = .binOp .eql t x y t2) (ht : tiGet T t = some ti) (hd : ti.desc = .bool) (hx : lk E x = some (.bool a)) (hy : lk E y = some (.bool b)) :
    Val P n w0 S0 E L o (.bool (a == b)) := by
  intro ac w hs _
  have hu := (hT _ _ ht).1
  rw [hd] at hu
  simp [execOp, ho, hs.eval hx, hs.eval hy, binOp, run_equal_bool w t a b hu, eqGuard]
theorem Val.neBool (hT : TabOk P T) {x y : Operand} {t2 : Nat} {a b : Bool} (ho : o.op = .binOp .neq t x y t2) (ht : tiGet T t = some ti) (hd : ti.desc = .bool) (hx : lk E x = some (.bool a)) (hy : lk E y = some (.bool b)) :
    Val P n w0 S0 E L o (.bool (a != b)) := by
  intro ac w hs _
  have hu := (hT _ _ ht).1
  rw [hd] at hu
  simp [execOp, ho, hs.eval hx, hs.eval hy, binOp, run_equal_bool w t a b hu, eqGuard]
  cases a <;> cases b <;> rfl
end
end Go.Vc
