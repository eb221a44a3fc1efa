/- Strings; what has no body. -/
import Derived.Test.YtilfbomjaflbjaaDoorVcJ
namespace Go.Vc
open Go Go.Sha

/-- The order of bytes. -/
def lessL : List Nat → List Nat → Bool
  | _, [] => false
  | [], _ :: _ => true
  | a :: x, b :: y => decide (a < b) || (a == b && lessL x y)

theorem bs_toList (l : List Nat) : (bs l).toList = l.map fun n => n.toUInt8 := by
  rw [ByteArray.toList_eq]
  simp [bs]
theorem u8_lt {a b : Nat} (ha : a < 256) (hb : b < 256) : (a.toUInt8 < b.toUInt8) ↔ a < b := by
  rw [UInt8.lt_iff_toNat_lt, toUInt8_toNat ha, toUInt8_toNat hb]
theorem bytesLess_bs : ∀ {a b : List Nat}, (∀ x ∈ a, x < 256) → (∀ x ∈ b, x < 256) → Op.bytesLess (a.map fun n => n.toUInt8) (b.map fun n => n.toUInt8) = lessL a b
  | _, [], _, _ => by simp [Op.bytesLess, lessL]
  | [], _ :: _, _, _ => by simp [Op.bytesLess, lessL]
  | a :: x, b :: y, ha, hb => by
    have ih := bytesLess_bs (fun z hz => ha z (List.mem_cons_of_mem _ hz)) (fun z hz => hb z (List.mem_cons_of_mem _ hz))
    have h1 := u8_lt (ha a (by simp)) (hb b (by simp))
    have h2 : (a.toUInt8 == b.toUInt8) = (a == b) := by
      rw [Bool.eq_iff_iff, beq_iff_eq, beq_iff_eq]
      exact ⟨toUInt8_inj (ha a (by simp)) (hb b (by simp)), fun h => by rw [h]⟩
    simp only [List.map_cons, Op.bytesLess, lessL, ih, h2]
    congr 1
    rw [Bool.eq_iff_iff, decide_eq_true_iff, decide_eq_true_iff]
    exact h1
theorem lessL_irrefl : ∀ a : List Nat, lessL a a = false
  | [] => rfl
  | a :: x => by simp [lessL, lessL_irrefl x]
theorem lessL_asymm : ∀ {a b : List Nat}, lessL a b = true → lessL b a = false
  | _, [], h => by simp [lessL] at h
  | [], _ :: _, _ => rfl
  | a :: x, b :: y, h => by
    simp only [lessL, Bool.or_eq_true, decide_eq_true_eq, Bool.and_eq_true, beq_iff_eq] at h
    simp only [lessL, Bool.or_eq_false_iff, decide_eq_false_iff_not, Bool.and_eq_false_iff]
    rcases h with h | ⟨rfl, h⟩
    · exact ⟨by omega, .inl (by simp; omega)⟩
    · exact ⟨by omega, .inr (lessL_asymm h)⟩
theorem lessL_trans : ∀ {a b c : List Nat}, lessL a b = true → lessL b c = true → lessL a c = true
  | _, _, [], _, h => by simp [lessL] at h
  | _, [], _ :: _, h, _ => by simp [lessL] at h
  | [], _ :: _, _ :: _, _, _ => rfl
  | a :: x, b :: y, c :: z, h, k => by
    simp only [lessL, Bool.or_eq_true, decide_eq_true_eq, Bool.and_eq_true, beq_iff_eq] at h k ⊢
    rcases h with h | ⟨rfl, h⟩
    · rcases k with k | ⟨rfl, k⟩
      · exact .inl (by omega)
      · exact .inl h
    · rcases k with k | ⟨rfl, k⟩
      · exact .inl k
      · exact .inr ⟨rfl, lessL_trans h k⟩
theorem lessL_tri : ∀ {a b : List Nat}, lessL a b = false → lessL b a = false → a = b
  | [], [], _, _ => rfl
  | [], _ :: _, h, _ => by simp [lessL] at h
  | _ :: _, [], _, h => by simp [lessL] at h
  | a :: x, b :: y, h, k => by
    simp only [lessL, Bool.or_eq_false_iff, decide_eq_false_iff_not, Bool.and_eq_false_iff] at h k
    have e : a = b := by omega
    subst e
    rw [lessL_tri (h.2.resolve_left (by simp)) (k.2.resolve_left (by simp))]

theorem find_range_succ (n : Nat) (p : Nat → Bool) : (List.range (n + 1)).find? p = if p 0 then some 0 else ((List.range n).find? fun i => p (i + 1)).map (· + 1) := by
  rw [List.range_succ_eq_map, List.find?_cons]
  cases p 0
  · simp [List.find?_map, Function.comp_def]
  · simp

theorem bs_cons_get (x : Nat) (l : List Nat) (i : Nat) : (bs (x :: l))[i + 1]! = (bs l)[i]! := by
  by_cases h : i < l.length
  · rw [bs_get _ _ (by simpa using h), bs_get _ _ h]; rfl
  · rw [getElem!_neg, getElem!_neg] <;> simp [bs_size] <;> omega
theorem cmp_less : ∀ {a b : List Nat}, (∀ x ∈ a, x < 256) → (∀ x ∈ b, x < 256) → (Extern.BytealgCompare.cmp (bs a) (bs b) < 0 ↔ lessL a b = true)
  | [], [], _, _ => by simp [Extern.BytealgCompare.cmp, lessL, bs_size]
  | [], b :: y, _, _ => by simp [Extern.BytealgCompare.cmp, lessL, bs_size]
  | a :: x, [], _, _ => by simp [Extern.BytealgCompare.cmp, lessL, bs_size]
  | a :: x, b :: y, ha, hb => by
    have ih := cmp_less (fun z hz => ha z (List.mem_cons_of_mem _ hz)) (fun z hz => hb z (List.mem_cons_of_mem _ hz))
    unfold Extern.BytealgCompare.cmp at ih ⊢
    simp only [bs_size] at ih ⊢
    rw [show min (a :: x).length (b :: y).length = min x.length y.length + 1 by simp, find_range_succ]
    have g1 : (bs (a :: x))[0]! = a.toUInt8 := bs_get _ 0 (by simp)
    have g2 : (bs (b :: y))[0]! = b.toUInt8 := bs_get _ 0 (by simp)
    simp only [bs_cons_get, g1, g2]
    have h1 := u8_lt (ha a (by simp)) (hb b (by simp))
    have h2 : (a.toUInt8 != b.toUInt8) = (a != b) := by
      rw [Bool.eq_iff_iff, bne_iff_ne, bne_iff_ne]
      exact ⟨fun h e => h (by rw [e]), fun h e => h (toUInt8_inj (ha a (by simp)) (hb b (by simp)) e)⟩
    rw [h2]
    by_cases e : a = b
    · subst e
      simp only [bne_self_eq_false, Bool.false_eq_true, if_false, lessL, Nat.lt_irrefl, decide_false, Bool.false_or, beq_self_eq_true, Bool.true_and, List.length_cons, Nat.add_lt_add_iff_right, gt_iff_lt]
      rw [← ih]
      cases (List.range (min x.length y.length)).find? fun i => (bs x)[i]! != (bs y)[i]! <;> simp [bs_cons_get]
    · have e' : (a != b) = true := by simpa using e
      simp only [e', if_true, lessL, Bool.or_eq_true, decide_eq_true_eq, Bool.and_eq_true, beq_iff_eq, g1, g2]
      by_cases hlt : a < b
      · simp [h1.2 hlt, hlt]
      · have : ¬ a.toUInt8 < b.toUInt8 := fun h => hlt (h1.1 h)
        simp [this, hlt, e]

section
variable {P : Program} {n : Nat} {w0 : World} {S0 : List Nat} {Q : Exit → Act → World → Prop} {E : Env} {L : Hp} {o : Oper} {d : Nat} {T : List (Nat × TI)} {t : Nat} {ti : TI} {ops : Array Oper} {l rest : List Oper}

/-- A call of what has no body: what its row answers. -/
theorem Val.extern {f : FuncId} {xs : List Operand} {ts : Array TypeId} {fn : Func} {vs : List Value} {e : Array Value → Sem Value} {v : Value} (hf : P.funcs[f]? = some fn)
    (ho : o.op = .call { callee := .value (.func f), args := xs.toArray, argTypes := ts }) (hnm : (fn.name == "runtime.NumGoroutine") = false) (hb : fn.body.isNone = true) (hn : Extern.findNext fn = none) (he : Extern.find fn = some e)
    (hx : lkAll E xs = some vs) (hr : ∀ w, Mem w0 S0 L w → (e vs.toArray).run P w = .ok v w) : Val P n w0 S0 E L o v := by
  intro a w hs hm
  have hv := hs.evalAll hx
  have hc := run_callFunc_extern hf hnm hb hn he vs.toArray w
  rw [hr w hm] at hc
  rw [← hv] at hc
  simp [execOp, ho, resolve, Act.eval, Deferred.ofValue, invoke]
  simpa using hc

theorem Val.eqStr {x y : Operand} {t2 : Nat} {a b : List Nat} (ho : o.op = .binOp .eql t x y t2) (hx : lk E x = some (.string (bs a))) (hy : lk E y = some (.string (bs b))) (ha : ∀ x ∈ a, x < 256) (hb : ∀ x ∈ b, x < 256) :
    Val P n w0 S0 E L o (.bool (decide (a = b))) := by
  intro ac w hs _
  have : ((bs a).toList == (bs b).toList) = decide (a = b) := by
    rw [Bool.eq_iff_iff, beq_iff_eq, decide_eq_true_iff]
    refine ⟨fun h => bs_inj ha hb ?_, fun h => by rw [h]⟩
    rw [ByteArray.toList_eq, ByteArray.toList_eq] at h
    exact ByteArray.ext (Array.toList_inj.1 h)
  simp [execOp, ho, hs.eval hx, hs.eval hy, binOp, Op.stringOp, this, eqGuard]
theorem Val.lssStr {x y : Operand} {t2 : Nat} {a b : List Nat} (ho : o.op = .binOp .lss t x y t2) (hx : lk E x = some (.string (bs a))) (hy : lk E y = some (.string (bs b))) (ha : ∀ x ∈ a, x < 256) (hb : ∀ x ∈ b, x < 256) :
    Val P n w0 S0 E L o (.bool (lessL a b)) := by
  intro ac w hs _
  simp [execOp, ho, hs.eval hx, hs.eval hy, binOp, Op.stringOp, bs_toList, bytesLess_bs ha hb, eqGuard]
theorem Val.addStr {x y : Operand} {t2 : Nat} {a b : List Nat} (ho : o.op = .binOp .add t x y t2) (hx : lk E x = some (.string (bs a))) (hy : lk E y = some (.string (bs b))) (hl : a.length + b.length ≤ 9223372036854775807) :
    Val P n w0 S0 E L o (.string (bs (a ++ b))) := by
  intro ac w hs _
  have h63 : ((bs a).size : Int) + ((bs b).size : Int) ≤ 9223372036854775807 := by
    rw [bs_size, bs_size]
    omega
  simp [execOp, ho, hs.eval hx, hs.eval hy, binOp, Op.stringOp, eqGuard, bs_app]
  simpa using h63
theorem Val.ixStr (hT : TabOk P T) (j : Nat) {x y : Operand} {a : List Nat} {k : IntKind} {z : Int} (ho : o.op = .index t x y) (ht : tiGet T t = some ti) (hd : ti.desc = .string) (hx : lk E x = some (.string (bs a))) (hy : lk E y = some (.int k z)) (hz : z = j) (hj : j < a.length) (ha : ∀ x ∈ a, x < 256) :
    Val P n w0 S0 E L o (.int .u8 (a.getD j 0 : Nat)) := by
  intro ac w hs _
  subst hz
  have hu := (hT _ _ ht).1
  rw [hd] at hu
  have hg : (bs a)[j]? = some (a[j]'hj).toUInt8 := by
    have hi : j < (bs a).size := by rw [bs_size]; exact hj
    rw [getElem?_pos (bs a) j hi]
    show some ((bs a).data[j]) = _
    simp [bs]
  have h2 : (a[j]'hj).toUInt8.toNat = a[j]'hj := toUInt8_toNat (ha _ (List.getElem_mem hj))
  simp [execOp, ho, hs.eval hx, hs.eval hy, Instr.index, asIntOf, run_underlying hu, hg, List.getD_eq_getElem?_getD, hj]
  have := ha _ (List.getElem_mem hj)
  omega
/-- The bytes that a slice holds, as a string. -/
theorem Val.bytesStr (hT : TabOk P T) {s c : Nat} {x : Operand} {v : Value} {m : Nat} {a : List Nat} {el : Nat} {si ei : TI} (ho : o.op = .convert s c x) (hs : tiGet T s = some si) (hsd : si.desc = .slice el) (he : tiGet T el = some ei) (hed : ei.desc = .int .u8) (hc : tiGet T c = some ti) (hcd : ti.desc = .string)
    (hx : lk E x = some v) (hsrc : Src w0 S0 L 1 v m (u8s a)) : Val P n w0 S0 E L o (.string (bs a)) := by
  intro ac w hst hm
  have h1 := (hT _ _ hs).1
  rw [hsd] at h1
  have h2 := (hT _ _ he).1
  rw [hed] at h2
  have h3 := (hT _ _ hc).1
  rw [hcd] at h3
  generalize hcs : u8s a = cs at hsrc
  cases hsrc with
  | nil =>
    have : a = [] := by cases a with
      | nil => rfl
      | cons => cases hcs
    subst this
    simp [execOp, ho, hst.eval hx, run_convert_bytes_string w s c el none 0 0 h1 h2 h3, Conv.bytesToString]
    rfl
  | «at» ad m cap cs hl hr =>
    subst hcs
    have hml : a.length = m := by rw [u8s_len, Nat.mul_one] at hl; exact hl
    have hld : (loadCells ad m).run P w = .ok ((a.map fun n : Nat => (n : Int)).map (Value.int .u8)).toArray w := by
      have := run_loadCells_list (P := P) w ad (u8s a) (hr w hm)
      rw [u8s_len, hml] at this
      rw [this]
      simp [u8s, Function.comp_def]
    simp [execOp, ho, hst.eval hx, run_convert_bytes_string w s c el (some ad) m cap h1 h2 h3, run_bytesToString w ad m cap _ hld, foldl_push_bytes]
    exact ByteArray.ext (by simp [bs, Function.comp_def])
end
end Go.Vc
namespace Go.Vc
open Go Go.Sha
section
variable {P : Program} {n : Nat} {w0 : World} {S0 : List Nat} {Q : Exit → Act → World → Prop} {E : Env} {L : Hp} {o : Oper} {d : Nat} {T : List (Nat × TI)} {t : Nat} {ti : TI} {ops : Array Oper} {l rest : List Oper}
theorem bs_extract (l : List Nat) (a b : Nat) : (bs l).extract a b = bs ((l.drop a).take (b - a)) := by
  apply ByteArray.ext
  rw [ByteArray.data_extract]
  apply Array.toList_inj.1
  simp [bs, List.extract, List.map_take, List.map_drop]
/-- s[l:h] of a string, both given -/
theorem Val.sliceStr (hT : TabOk P T) (zl zh : Nat) {x y y' : Operand} {a : List Nat} {k k' : IntKind} {z z' : Int} (ho : o.op = .slice t x (some y) (some y') none) (ht : tiGet T t = some ti) (hd : ti.desc = .string)
    (hx : lk E x = some (.string (bs a))) (hy : lk E y = some (.int k z)) (hy' : lk E y' = some (.int k' z')) (hz : z = zl) (hz' : z' = zh) (h1 : zl ≤ zh) (h2 : zh ≤ a.length) :
    Val P n w0 S0 E L o (.string (bs ((a.drop zl).take (zh - zl)))) := by
  intro ac w hs _
  subst hz
  subst hz'
  have hu := (hT _ _ ht).1
  rw [hd] at hu
  have b1 := run_sliceBound (P := P) w k' zh (bs a).size .sliceAlen (by omega) (by rw [bs_size]; omega)
  have b2 := run_sliceBound (P := P) w k zl zh .sliceB (by omega) (by omega)
  simp [execOp, ho, hs.eval hx, hs.eval hy, hs.eval hy', Instr.sliceAt, Instr.slice, run_underlying hu, Instr.sliceBounds, b1, b2, bs_extract]
end
end Go.Vc
